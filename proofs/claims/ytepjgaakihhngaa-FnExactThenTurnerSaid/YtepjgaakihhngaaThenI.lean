/-
  Contracts of the program's raised and changed turners. Conditions: those in each statement.
-/
import Derived.Test.YtepjgaakihhngaaPAcc
import Derived.Test.YtepjgaakihhngaaThenLaw
import Derived.Test.YtepjgaakihhngaaModS
import Derived.Test.YtepjgaakihhngaaRep
import Derived.Test.YtepjgaakihhngaaTail2
import Derived.Deep.DeepCutAuto
set_option linter.unusedVariables false
set_option linter.unusedSimpArgs false
set_option maxRecDepth 100000
set_option maxHeartbeats 1000000
namespace Go.Proofs.Ytepjgaakihhngaa
open Go.RowKit

/-- The function that ThenTurner hands to changed. -/
theorem homeFn (g : Nat) (h : Int) (m : Int × Int) (w : World) (q0 : w.cell? ⟨g, 0, none⟩ = some (.int .i64 h)) (hg : g < w.heap.size) :
    Calls Try.prog 92 #[.agg #[.int .i64 m.1, .int .i64 m.2], .pointer (some ⟨g, 0, none⟩)] w fun e w' => e = .returned (.agg #[.int .i64 (chgM (h, -1) m).1, .int .i64 (chgM (h, -1) m).2]) ∧ Below w.heap.size w w' := by
  obtain ⟨t, d⟩ := m
  by_cases ht : t = -1
  · have HE : Hid (chgM (h, -1) (t, d) = (h, -1)) := Lib.hid (by simp [chgM, ht])
    rw [HE.out]
    have q : (t == -1) = true := by simpa using ht
    clear ht
    go_enter Try.func92, Try.ntmps92
    go_wp2
    exact bodyPost_ret (v := .agg #[.int .i64 h, .int .i64 (-1)]) (by simp [results, Try.results92, go_sem]) rfl ⟨rfl, (by repeat (first | exact Below.refl _ _ | exact Since.out (by assumption) | refine Below.alloc ?_ (by first | omega | (simp only [sz_alloc, sz_set, sz_drew, sz_drewN]; omega) | (simp only [sz_alloc, sz_set, sz_drew, sz_drewN] at *; omega)) _ | refine Below.setCell ?_ (by first | omega | (simp only [sz_alloc, sz_set, sz_drew, sz_drewN]; omega) | (simp only [sz_alloc, sz_set, sz_drew, sz_drewN] at *; omega)) _ | refine Below.drew ?_ | refine below_drewN_ ?_ _))⟩
  · have HE : Hid (chgM (h, -1) (t, d) = (t, d)) := Lib.hid (by simp [chgM, ht])
    rw [HE.out]
    have q : (t == -1) = false := beq_false_of_ne ht
    clear ht
    go_enter Try.func92, Try.ntmps92
    go_wp2
    exact bodyPost_ret (v := .agg #[.int .i64 t, .int .i64 d]) (by simp [results, Try.results92, go_sem]) rfl ⟨rfl, (by repeat (first | exact Below.refl _ _ | exact Since.out (by assumption) | refine Below.alloc ?_ (by first | omega | (simp only [sz_alloc, sz_set, sz_drew, sz_drewN]; omega) | (simp only [sz_alloc, sz_set, sz_drew, sz_drewN] at *; omega)) _ | refine Below.setCell ?_ (by first | omega | (simp only [sz_alloc, sz_set, sz_drew, sz_drewN]; omega) | (simp only [sz_alloc, sz_set, sz_drew, sz_drewN] at *; omega)) _ | refine Below.drew ?_ | refine below_drewN_ ?_ _))⟩

/-- The function that raised hands to changed. -/
theorem raiseFn (g : Nat) (n : Nat) (m : Int × Int) (w : World) (q0 : w.cell? ⟨g, 0, none⟩ = some (.int .i64 n)) (hg : g < w.heap.size) (h0 : -2 ≤ m.1) (h1 : m.1 ≤ 11) (hn : n ≤ 12) :
    Calls Try.prog 135 #[.agg #[.int .i64 m.1, .int .i64 m.2], .pointer (some ⟨g, 0, none⟩)] w fun e w' => e = .returned (.agg #[.int .i64 (raiseM n m).1, .int .i64 (raiseM n m).2]) ∧ Below w.heap.size w w' := by
  obtain ⟨t, d⟩ := m
  simp only at h0 h1
  have n0 : (0 : Int) ≤ (n : Int) := by omega
  have n1 : (n : Int) ≤ 12 := by omega
  have hg1 : g < w.heap.size + 1 := by omega
  have hg2 : g < w.heap.size + 1 + 1 := by omega
  by_cases ht : 0 ≤ t
  · have HE : Hid (raiseM n (t, d) = (t + n, d)) := Lib.hid (by simp [raiseM, ht])
    rw [HE.out]
    have q1 : decide (t < 0) = false := by simp; omega
    go_enter Try.func135, Try.ntmps135
    go_wp2
    exact bodyPost_ret (v := .agg #[.int .i64 (t + n), .int .i64 d]) (by simp [results, Try.results135, go_sem]) rfl ⟨rfl, (by repeat (first | exact Below.refl _ _ | exact Since.out (by assumption) | refine Below.alloc ?_ (by first | omega | (simp only [sz_alloc, sz_set, sz_drew, sz_drewN]; omega) | (simp only [sz_alloc, sz_set, sz_drew, sz_drewN] at *; omega)) _ | refine Below.setCell ?_ (by first | omega | (simp only [sz_alloc, sz_set, sz_drew, sz_drewN]; omega) | (simp only [sz_alloc, sz_set, sz_drew, sz_drewN] at *; omega)) _ | refine Below.drew ?_ | refine below_drewN_ ?_ _))⟩
  · have HE : Hid (raiseM n (t, d) = (t, d)) := Lib.hid (by simp [raiseM, ht])
    rw [HE.out]
    rcases (show t = -1 ∨ t = -2 by omega) with rfl | rfl
    · go_enter Try.func135, Try.ntmps135
      go_wp2
      exact bodyPost_ret (v := .agg #[.int .i64 (-1), .int .i64 d]) (by simp [results, Try.results135, go_sem]) rfl ⟨rfl, (by repeat (first | exact Below.refl _ _ | exact Since.out (by assumption) | refine Below.alloc ?_ (by first | omega | (simp only [sz_alloc, sz_set, sz_drew, sz_drewN]; omega) | (simp only [sz_alloc, sz_set, sz_drew, sz_drewN] at *; omega)) _ | refine Below.setCell ?_ (by first | omega | (simp only [sz_alloc, sz_set, sz_drew, sz_drewN]; omega) | (simp only [sz_alloc, sz_set, sz_drew, sz_drewN] at *; omega)) _ | refine Below.drew ?_ | refine below_drewN_ ?_ _))⟩
    · go_enter Try.func135, Try.ntmps135
      go_wp2
      exact bodyPost_ret (v := .agg #[.int .i64 (-2), .int .i64 d]) (by simp [results, Try.results135, go_sem]) rfl ⟨rfl, (by repeat (first | exact Below.refl _ _ | exact Since.out (by assumption) | refine Below.alloc ?_ (by first | omega | (simp only [sz_alloc, sz_set, sz_drew, sz_drewN]; omega) | (simp only [sz_alloc, sz_set, sz_drew, sz_drewN] at *; omega)) _ | refine Below.setCell ?_ (by first | omega | (simp only [sz_alloc, sz_set, sz_drew, sz_drewN]; omega) | (simp only [sz_alloc, sz_set, sz_drew, sz_drewN] at *; omega)) _ | refine Below.drew ?_ | refine below_drewN_ ?_ _))⟩

set_option maxHeartbeats 4000000 in
theorem changedHome (A : Option Addr) (c : Nat) (T : Tn) (g : Nat) (h : Int) (w : World) (r1 : RdS w w.heap.size A T.moves) (OK : T.Ok) (q0 : w.cell? ⟨g, 0, none⟩ = some (.int .i64 h)) (hg : g < w.heap.size) :
    Calls Try.prog 91 #[.agg #[.int .i64 T.letters, .int .i64 T.start, .slice A T.moves.length c], .func (.func 92) #[] #[.pointer (some ⟨g, 0, none⟩)]] w fun e w' =>
      ∃ A3 c3 bs, e = .returned (.agg #[.int .i64 T.letters, .int .i64 T.start, .slice A3 T.moves.length c3]) ∧ Acc w' (w.heap.size + 3) 92 A3 T.moves.length c3 (T.moves.map (fun r => r.map (chgM (h, -1)))) bs ∧ Below w.heap.size w w' ∧ w.heap.size + 3 ≤ w'.heap.size := by
  have hn := OK.n12
  have l1 := OK.l1
  have l3 := OK.l3
  have HR := Lib.hid OK.row
  have HOK := Lib.hid OK
  have Q0 := Lib.hid q0
  go_enter Try.func91, Try.ntmps91
  go_wp2_with fail
  go_loopw [19] (fun i wr => ∃ (k : Nat) (A3 : Option Addr) (c3 : Nat) (bs : List Nat), k ≤ T.moves.length ∧ i = .int .i64 k ∧ Hid (Acc wr (w.heap.size + 3) 92 A3 k c3 ((T.moves.take k).map (fun r => r.map (chgM (h, -1)))) bs ∧ wr.heap[w.heap.size + 2]? = some (.cells #[.int .i64 T.letters, .int .i64 T.start, .slice A3 k c3] 34 (0, 0)) ∧ wr.heap[w.heap.size + 1]? = some (.cells #[.int .i64 0, .int .i64 0, .slice none 0 0] 34 (0, 0))) ∧ Since w wr) (fun i _ => T.moves.length - (intOf i).toNat)
  case atStart => exact ⟨0, none, 0, [], Nat.zero_le _, rfl, Lib.hid ⟨by rw [List.take_zero]; exact Acc.nil_ _ _ _, new_block (by simp), alloc_block (new_block (by simp)) (by simp)⟩, ⟨(by repeat (first | exact Below.refl _ _ | refine Below.alloc ?_ (by first | omega | (simp only [sz_alloc, sz_set, sz_drew, sz_drewN]; omega) | (simp only [sz_alloc, sz_set, sz_drew, sz_drewN] at *; omega)) _ | refine Below.setCell ?_ (by first | omega | (simp only [sz_alloc, sz_set, sz_drew, sz_drewN]; omega) | (simp only [sz_alloc, sz_set, sz_drew, sz_drewN] at *; omega)) _ | refine Below.drew ?_ | refine below_drewN_ ?_ _))⟩⟩
  case round =>
    obtain ⟨k, A3, c3, bs, hk, rfl, HD, hsd⟩ := hrel
    obtain ⟨wd, rfl⟩ : ∃ x, x = wr := ⟨_, rfl⟩
    have hzd : w.heap.size + 2 < wd.heap.size := (Array.getElem?_eq_some_iff.1 HD.out.2.1).1
    by_cases hlt : k < T.moves.length
    · obtain ⟨row, hrow⟩ := get_some hlt
      have hl := HR.out row (List.mem_of_getElem? hrow)
      obtain ⟨rb, ro, P, p, rfl, hrb, cr0, -, rx⟩ := r1.row hrow
      have cr := (hsd.out.cell (p := ⟨rb, ro + k, none⟩) hrb).trans cr0
      have i1 : (0 : Int) ≤ (k : Int) := by omega
      have i2 : (k : Int) < (T.moves.length : Int) := by omega
      have hrl5 : row.length ≤ 5 := by omega
      have HROW := Lib.hid hrow
      have HT := Lib.hid (take_snoc hrow)
      clear hrow hl cr0
      go_wp2
      go_loopw [8, 26] (fun rv kv wr => ∃ (j : Nat) (A' : Option Addr) (c' : Nat), j ≤ row.length ∧ kv = .int .i64 j ∧ rv = .slice A' j c' ∧ Hid (Acc wr wd.heap.size 94 A' j c' ((row.take j).map (chgM (h, -1))) []) ∧ Since wd wr) (fun _ i _ => row.length - (intOf i).toNat)
      case atStart => exact ⟨0, _, _, Nat.zero_le _, rfl, rfl, Lib.hid (Acc.empty_ (new_block rfl) (Nat.le_refl _)), ⟨(by repeat (first | exact Below.refl _ _ | refine Below.alloc ?_ (by first | omega | (simp only [sz_alloc, sz_set, sz_drew, sz_drewN]; omega) | (simp only [sz_alloc, sz_set, sz_drew, sz_drewN] at *; omega)) _ | refine Below.setCell ?_ (by first | omega | (simp only [sz_alloc, sz_set, sz_drew, sz_drewN]; omega) | (simp only [sz_alloc, sz_set, sz_drew, sz_drewN] at *; omega)) _ | refine Below.drew ?_ | refine below_drewN_ ?_ _))⟩⟩
      case round =>
        obtain ⟨j, A', c', hjl, rfl, rfl, HW, hse⟩ := hrel
        have hze := hse.out.size
        have SE : Since w wr := ⟨below_cat hsd.out hse.out hsd.out.size⟩
        by_cases hj : j < row.length
        · obtain ⟨mm, hmm⟩ := get_some hj
          obtain ⟨pb, po, rfl, hpb, cq0, cq1⟩ := rx.pair hmm
          have cq0 := (SE.out.cell (p := ⟨pb, po + j * 2, none⟩) hpb).trans cq0
          have cq1 := (SE.out.cell (p := ⟨pb, po + j * 2 + 1, none⟩) hpb).trans cq1
          have hpr : pb < wr.heap.size := by omega
          have j1 : (0 : Int) ≤ (j : Int) := by omega
          have j2 : (j : Int) < (row.length : Int) := by omega
          have hmo := Tn.mv_ok HOK.out hlt (show (j : Int) < T.letters + 2 by have := HR.out row (List.mem_of_getElem? HROW.out); omega)
          rw [mvAt_of HROW.out hmm] at hmo
          have hmb := raise_in hmo (by omega)
          have HT2 := Lib.hid (take_snoc hmm)
          clear hmo hmm
          obtain ⟨x, y⟩ := mm
          simp only at hmb cq0 cq1
          go_wp2_with fail
          refine (homeFn g h (x, y) _ (by (have h0 := (SE.out.cell (p := ⟨g, 0, none⟩) hg).trans Q0.out); (have h1 : g < wr.heap.size := by omega); go_simp) (by first | omega | (simp only [sz_alloc, sz_set, sz_drew, sz_drewN]; omega) | (simp only [sz_alloc, sz_set, sz_drew, sz_drewN] at *; omega))).mono ?_
          rintro e w5 ⟨rfl, hb5⟩
          have HS5 : Since wd w5 := ⟨below_cat hse.out (below_cat (by repeat (first | exact Below.refl _ _ | refine Below.alloc ?_ (by first | omega | (simp only [sz_alloc, sz_set, sz_drew, sz_drewN]; omega) | (simp only [sz_alloc, sz_set, sz_drew, sz_drewN] at *; omega)) _ | refine Below.setCell ?_ (by first | omega | (simp only [sz_alloc, sz_set, sz_drew, sz_drewN]; omega) | (simp only [sz_alloc, sz_set, sz_drew, sz_drewN] at *; omega)) _ | refine Below.drew ?_ | refine below_drewN_ ?_ _)) hb5 (by first | omega | (simp only [sz_alloc, sz_set, sz_drew, sz_drewN]; omega) | (simp only [sz_alloc, sz_set, sz_drew, sz_drewN] at *; omega))) hse.out.size⟩
          have hz5 := HS5.out.size
          have HW5 := Lib.hid (HW.out.below (C := wr.heap.size) (below_cat (by repeat (first | exact Below.refl _ _ | refine Below.alloc ?_ (by first | omega | (simp only [sz_alloc, sz_set, sz_drew, sz_drewN]; omega) | (simp only [sz_alloc, sz_set, sz_drew, sz_drewN] at *; omega)) _ | refine Below.setCell ?_ (by first | omega | (simp only [sz_alloc, sz_set, sz_drew, sz_drewN]; omega) | (simp only [sz_alloc, sz_set, sz_drew, sz_drewN] at *; omega)) _ | refine Below.drew ?_ | refine below_drewN_ ?_ _)) hb5 (by first | omega | (simp only [sz_alloc, sz_set, sz_drew, sz_drewN]; omega) | (simp only [sz_alloc, sz_set, sz_drew, sz_drewN] at *; omega))) (Nat.le_refl _))
          go_wp2_with (at_builtin; refine wpList_push (α := Int × Int) _ rfl (.tmp 30) (.tmp 34) 92 rfl wd.heap.size 94 (.agg #[.int .i64 0, .int .i64 0]) 16 Try.underlying92 infoMove rfl A' j c' _ [] rfl (HW5.out.below (C := w5.heap.size) (by repeat (first | exact Below.refl _ _ | refine Below.alloc ?_ (by first | omega | (simp only [sz_alloc, sz_set, sz_drew, sz_drewN]; omega) | (simp only [sz_alloc, sz_set, sz_drew, sz_drewN] at *; omega)) _ | refine Below.setCell ?_ (by first | omega | (simp only [sz_alloc, sz_set, sz_drew, sz_drewN]; omega) | (simp only [sz_alloc, sz_set, sz_drew, sz_drewN] at *; omega)) _ | refine Below.drew ?_ | refine below_drewN_ ?_ _)) (Nat.le_refl _)) w5.heap.size 1 rfl (chgM (h, -1) (x, y)) [.int .i64 (chgM (h, -1) (x, y)).1, .int .i64 (chgM (h, -1) (x, y)).2] [] ⟨rfl, rfl⟩ (new_cells (by first | rfl | simp [sz_set])) (fun u hu => by (simp at hu; rcases hu with rfl | rfl <;> rfl)) ⟨List.nodup_nil, fun g hg => by simp at hg⟩ (fun g hg => by simp at hg) (by omega) (by omega) (by first | omega | (simp only [sz_alloc, sz_set, sz_drew, sz_drewN]; omega) | (simp only [sz_alloc, sz_set, sz_drew, sz_drewN] at *; omega)) ?_
                       intro D1 d1 w6 hacc hgr hnew
                       have HS6 : Since wd w6 := ⟨Acc.since (HW5.out.below (C := w5.heap.size) (by repeat (first | exact Below.refl _ _ | refine Below.alloc ?_ (by first | omega | (simp only [sz_alloc, sz_set, sz_drew, sz_drewN]; omega) | (simp only [sz_alloc, sz_set, sz_drew, sz_drewN] at *; omega)) _ | refine Below.setCell ?_ (by first | omega | (simp only [sz_alloc, sz_set, sz_drew, sz_drewN]; omega) | (simp only [sz_alloc, sz_set, sz_drew, sz_drewN] at *; omega)) _ | refine Below.drew ?_ | refine below_drewN_ ?_ _)) (Nat.le_refl _)) hgr (below_cat HS5.out (by repeat (first | exact Below.refl _ _ | refine Below.alloc ?_ (by first | omega | (simp only [sz_alloc, sz_set, sz_drew, sz_drewN]; omega) | (simp only [sz_alloc, sz_set, sz_drew, sz_drewN] at *; omega)) _ | refine Below.setCell ?_ (by first | omega | (simp only [sz_alloc, sz_set, sz_drew, sz_drewN]; omega) | (simp only [sz_alloc, sz_set, sz_drew, sz_drewN] at *; omega)) _ | refine Below.drew ?_ | refine below_drewN_ ?_ _)) HS5.out.size) (Nat.le_refl _) (by first | omega | (simp only [sz_alloc, sz_set, sz_drew, sz_drewN]; omega) | (simp only [sz_alloc, sz_set, sz_drew, sz_drewN] at *; omega))⟩
                       have HA := Lib.hid hacc
                       clear hacc hgr hnew)
          go_roundw
          case rel => exact ⟨j + 1, D1, d1, by omega, by go_num, rfl, Lib.hid (by rw [HT2.out, List.map_append]; exact HA.out), HS6⟩
          case measure => simp [intOf]; omega
        · obtain rfl : j = row.length := by omega
          have HWX := HW.out
          rw [List.take_length] at HWX
          have HW := Lib.hid HWX
          clear HWX
          have QO := Lib.hid ((hse.out.block _ hzd).trans HD.out.2.1)
          have QR := Lib.hid ((hse.out.block _ (by omega)).trans HD.out.2.2)
          have d2 : wr.cell? ⟨w.heap.size + 2, 2, none⟩ = some (.slice A3 k c3) := cell_of_row wr _ 2 _ _ (0, 0) QO.out
          have HX : Hid (Acc (wr.alloc (.cells #[.slice A' row.length c'] 92)) (w.heap.size + 3) 92 A3 k c3 ((T.moves.take k).map (fun r => r.map (chgM (h, -1)))) bs) := Lib.hid (HD.out.1.below (C := wd.heap.size) (by repeat (first | exact Below.refl _ _ | exact Since.out (by assumption) | refine Below.alloc ?_ (by first | omega | (simp only [sz_alloc, sz_set, sz_drew, sz_drewN]; omega) | (simp only [sz_alloc, sz_set, sz_drew, sz_drewN] at *; omega)) _ | refine Below.setCell ?_ (by first | omega | (simp only [sz_alloc, sz_set, sz_drew, sz_drewN]; omega) | (simp only [sz_alloc, sz_set, sz_drew, sz_drewN] at *; omega)) _ | refine Below.drew ?_ | refine below_drewN_ ?_ _)) (Nat.le_refl _))
          go_wp2_with (at_builtin; obtain ⟨b2, hy, hf⟩ := (HW.out.alloc (.cells #[.slice A' row.length c'] 92)).row (by omega)
                       refine wpList_push (α := List (Int × Int)) _ rfl (.tmp 38) (.tmp 40) 32 rfl (w.heap.size + 3) 92 (.slice none 0 0) 24 Try.underlying32 infoMoveSS rfl A3 k c3 _ bs rfl HX.out wr.heap.size 1 rfl (row.map (chgM (h, -1))) [.slice A' row.length c'] b2 hy (new_cells (by first | rfl | simp [sz_set])) (fun u hu => by (simp at hu; subst hu; rfl)) ⟨hf.1, fun g hg => ⟨by have := (hf.2 g hg).1; omega, (hf.2 g hg).2⟩⟩ (HD.out.1.apart hf (Nat.le_refl _)) (by omega) (by omega) (by first | omega | (simp only [sz_alloc, sz_set, sz_drew, sz_drewN]; omega) | (simp only [sz_alloc, sz_set, sz_drew, sz_drewN] at *; omega)) ?_
                       intro D3 d3 w9 hacc hgr hnew
                       have hB1 := Lib.hid (HX.out.box hgr (alloc_block QO.out (by first | omega | (simp only [sz_alloc, sz_set, sz_drew, sz_drewN]; omega) | (simp only [sz_alloc, sz_set, sz_drew, sz_drewN] at *; omega))) (by omega))
                       have hB2 := Lib.hid (HX.out.box hgr (alloc_block QR.out (by first | omega | (simp only [sz_alloc, sz_set, sz_drew, sz_drewN]; omega) | (simp only [sz_alloc, sz_set, sz_drew, sz_drewN] at *; omega))) (by omega))
                       have f3 : w9.frozen? ⟨w.heap.size + 2, 2, none⟩ = false := blk_free hB1.out
                       have k9 : w9.cell? ⟨w.heap.size + 2, 2, none⟩ = some (.slice A3 k c3) := cell_of_row w9 _ 2 _ _ (0, 0) hB1.out
                       have HS9 : Since w w9 := ⟨Acc.since HX.out hgr (below_cat SE.out (by repeat (first | exact Below.refl _ _ | refine Below.alloc ?_ (by first | omega | (simp only [sz_alloc, sz_set, sz_drew, sz_drewN]; omega) | (simp only [sz_alloc, sz_set, sz_drew, sz_drewN] at *; omega)) _ | refine Below.setCell ?_ (by first | omega | (simp only [sz_alloc, sz_set, sz_drew, sz_drewN]; omega) | (simp only [sz_alloc, sz_set, sz_drew, sz_drewN] at *; omega)) _ | refine Below.drew ?_ | refine below_drewN_ ?_ _)) SE.out.size) (by omega) (by first | omega | (simp only [sz_alloc, sz_set, sz_drew, sz_drewN]; omega) | (simp only [sz_alloc, sz_set, sz_drew, sz_drewN] at *; omega))⟩
                       have HA := Lib.hid hacc
                       clear hacc hgr hnew hy hf)
          go_roundw
          case rel =>
            refine ⟨k + 1, D3, d3, bs ++ b2, by omega, by go_num, Lib.hid ⟨?_, blk_set (i := 2) hB1.out _, blk_far hB2.out (by simp) _⟩, ⟨HS9.out.setCell (by simp only; omega) _⟩⟩
            rw [HT.out, List.map_append]
            exact HA.out.setLow (by simp only; omega) _
          case measure => simp [intOf]; omega
    · obtain rfl : k = T.moves.length := by omega
      have u0 : wd.cell? ⟨w.heap.size + 2, 0, none⟩ = some (.int .i64 T.letters) := cell_of_row wd _ 0 _ _ (0, 0) HD.out.2.1
      have u1 : wd.cell? ⟨w.heap.size + 2, 1, none⟩ = some (.int .i64 T.start) := cell_of_row wd _ 1 _ _ (0, 0) HD.out.2.1
      have u2 : wd.cell? ⟨w.heap.size + 2, 2, none⟩ = some (.slice A3 T.moves.length c3) := cell_of_row wd _ 2 _ _ (0, 0) HD.out.2.1
      have v0 : wd.cell? ⟨w.heap.size + 1, 0, none⟩ = some (.int .i64 0) := cell_of_row wd _ 0 _ _ (0, 0) HD.out.2.2
      have v1 : wd.cell? ⟨w.heap.size + 1, 1, none⟩ = some (.int .i64 0) := cell_of_row wd _ 1 _ _ (0, 0) HD.out.2.2
      have v2 : wd.cell? ⟨w.heap.size + 1, 2, none⟩ = some (.slice none 0 0) := cell_of_row wd _ 2 _ _ (0, 0) HD.out.2.2
      have x0 : wd.frozen? ⟨w.heap.size + 1, 0, none⟩ = false := blk_free HD.out.2.2
      have x1 : wd.frozen? ⟨w.heap.size + 1, 1, none⟩ = false := blk_free HD.out.2.2
      have x2 : wd.frozen? ⟨w.heap.size + 1, 2, none⟩ = false := blk_free HD.out.2.2
      have hA := HD.out.1
      rw [List.take_length] at hA
      have HA := Lib.hid hA
      clear hA
      go_wp2
      refine bodyPost_ret (v := .agg #[.int .i64 T.letters, .int .i64 T.start, .slice A3 T.moves.length c3]) (by simp [results, Try.results91, go_sem, v0, v1, v2]) rfl
        ⟨A3, c3, bs, rfl, ?_, (by repeat (first | exact Below.refl _ _ | exact Since.out (by assumption) | refine Below.alloc ?_ (by first | omega | (simp only [sz_alloc, sz_set, sz_drew, sz_drewN]; omega) | (simp only [sz_alloc, sz_set, sz_drew, sz_drewN] at *; omega)) _ | refine Below.setCell ?_ (by first | omega | (simp only [sz_alloc, sz_set, sz_drew, sz_drewN]; omega) | (simp only [sz_alloc, sz_set, sz_drew, sz_drewN] at *; omega)) _ | refine Below.drew ?_ | refine below_drewN_ ?_ _)), (by first | omega | (simp only [sz_alloc, sz_set, sz_drew, sz_drewN]; omega) | (simp only [sz_alloc, sz_set, sz_drew, sz_drewN] at *; omega))⟩
      exact ((HA.out.setLow (by simp only; omega) _).setLow (by simp only; omega) _).setLow (by simp only; omega) _

set_option maxHeartbeats 4000000 in
theorem changedRaise (A : Option Addr) (c : Nat) (T : Tn) (g : Nat) (n : Nat) (w : World) (r1 : RdS w w.heap.size A T.moves) (OK : T.Ok) (q0 : w.cell? ⟨g, 0, none⟩ = some (.int .i64 n)) (hn1 : n ≤ 12) (hg : g < w.heap.size) :
    Calls Try.prog 91 #[.agg #[.int .i64 T.letters, .int .i64 T.start, .slice A T.moves.length c], .func (.func 135) #[] #[.pointer (some ⟨g, 0, none⟩)]] w fun e w' =>
      ∃ A3 c3 bs, e = .returned (.agg #[.int .i64 T.letters, .int .i64 T.start, .slice A3 T.moves.length c3]) ∧ Acc w' (w.heap.size + 3) 92 A3 T.moves.length c3 (T.moves.map (fun r => r.map (raiseM n))) bs ∧ Below w.heap.size w w' ∧ w.heap.size + 3 ≤ w'.heap.size := by
  have hn := OK.n12
  have l1 := OK.l1
  have l3 := OK.l3
  have HR := Lib.hid OK.row
  have HOK := Lib.hid OK
  have Q0 := Lib.hid q0
  go_enter Try.func91, Try.ntmps91
  go_wp2_with fail
  go_loopw [19] (fun i wr => ∃ (k : Nat) (A3 : Option Addr) (c3 : Nat) (bs : List Nat), k ≤ T.moves.length ∧ i = .int .i64 k ∧ Hid (Acc wr (w.heap.size + 3) 92 A3 k c3 ((T.moves.take k).map (fun r => r.map (raiseM n))) bs ∧ wr.heap[w.heap.size + 2]? = some (.cells #[.int .i64 T.letters, .int .i64 T.start, .slice A3 k c3] 34 (0, 0)) ∧ wr.heap[w.heap.size + 1]? = some (.cells #[.int .i64 0, .int .i64 0, .slice none 0 0] 34 (0, 0))) ∧ Since w wr) (fun i _ => T.moves.length - (intOf i).toNat)
  case atStart => exact ⟨0, none, 0, [], Nat.zero_le _, rfl, Lib.hid ⟨by rw [List.take_zero]; exact Acc.nil_ _ _ _, new_block (by simp), alloc_block (new_block (by simp)) (by simp)⟩, ⟨(by repeat (first | exact Below.refl _ _ | refine Below.alloc ?_ (by first | omega | (simp only [sz_alloc, sz_set, sz_drew, sz_drewN]; omega) | (simp only [sz_alloc, sz_set, sz_drew, sz_drewN] at *; omega)) _ | refine Below.setCell ?_ (by first | omega | (simp only [sz_alloc, sz_set, sz_drew, sz_drewN]; omega) | (simp only [sz_alloc, sz_set, sz_drew, sz_drewN] at *; omega)) _ | refine Below.drew ?_ | refine below_drewN_ ?_ _))⟩⟩
  case round =>
    obtain ⟨k, A3, c3, bs, hk, rfl, HD, hsd⟩ := hrel
    obtain ⟨wd, rfl⟩ : ∃ x, x = wr := ⟨_, rfl⟩
    have hzd : w.heap.size + 2 < wd.heap.size := (Array.getElem?_eq_some_iff.1 HD.out.2.1).1
    by_cases hlt : k < T.moves.length
    · obtain ⟨row, hrow⟩ := get_some hlt
      have hl := HR.out row (List.mem_of_getElem? hrow)
      obtain ⟨rb, ro, P, p, rfl, hrb, cr0, -, rx⟩ := r1.row hrow
      have cr := (hsd.out.cell (p := ⟨rb, ro + k, none⟩) hrb).trans cr0
      have i1 : (0 : Int) ≤ (k : Int) := by omega
      have i2 : (k : Int) < (T.moves.length : Int) := by omega
      have hrl5 : row.length ≤ 5 := by omega
      have HROW := Lib.hid hrow
      have HT := Lib.hid (take_snoc hrow)
      clear hrow hl cr0
      go_wp2
      go_loopw [8, 26] (fun rv kv wr => ∃ (j : Nat) (A' : Option Addr) (c' : Nat), j ≤ row.length ∧ kv = .int .i64 j ∧ rv = .slice A' j c' ∧ Hid (Acc wr wd.heap.size 94 A' j c' ((row.take j).map (raiseM n)) []) ∧ Since wd wr) (fun _ i _ => row.length - (intOf i).toNat)
      case atStart => exact ⟨0, _, _, Nat.zero_le _, rfl, rfl, Lib.hid (Acc.empty_ (new_block rfl) (Nat.le_refl _)), ⟨(by repeat (first | exact Below.refl _ _ | refine Below.alloc ?_ (by first | omega | (simp only [sz_alloc, sz_set, sz_drew, sz_drewN]; omega) | (simp only [sz_alloc, sz_set, sz_drew, sz_drewN] at *; omega)) _ | refine Below.setCell ?_ (by first | omega | (simp only [sz_alloc, sz_set, sz_drew, sz_drewN]; omega) | (simp only [sz_alloc, sz_set, sz_drew, sz_drewN] at *; omega)) _ | refine Below.drew ?_ | refine below_drewN_ ?_ _))⟩⟩
      case round =>
        obtain ⟨j, A', c', hjl, rfl, rfl, HW, hse⟩ := hrel
        have hze := hse.out.size
        have SE : Since w wr := ⟨below_cat hsd.out hse.out hsd.out.size⟩
        by_cases hj : j < row.length
        · obtain ⟨mm, hmm⟩ := get_some hj
          obtain ⟨pb, po, rfl, hpb, cq0, cq1⟩ := rx.pair hmm
          have cq0 := (SE.out.cell (p := ⟨pb, po + j * 2, none⟩) hpb).trans cq0
          have cq1 := (SE.out.cell (p := ⟨pb, po + j * 2 + 1, none⟩) hpb).trans cq1
          have hpr : pb < wr.heap.size := by omega
          have j1 : (0 : Int) ≤ (j : Int) := by omega
          have j2 : (j : Int) < (row.length : Int) := by omega
          have hmo := Tn.mv_ok HOK.out hlt (show (j : Int) < T.letters + 2 by have := HR.out row (List.mem_of_getElem? HROW.out); omega)
          rw [mvAt_of HROW.out hmm] at hmo
          have hmb := raise_in hmo (by omega)
          have HT2 := Lib.hid (take_snoc hmm)
          clear hmo hmm
          obtain ⟨x, y⟩ := mm
          simp only at hmb cq0 cq1
          go_wp2_with fail
          refine (raiseFn g n (x, y) _ (by (have h0 := (SE.out.cell (p := ⟨g, 0, none⟩) hg).trans Q0.out); (have h1 : g < wr.heap.size := by omega); go_simp) (by first | omega | (simp only [sz_alloc, sz_set, sz_drew, sz_drewN]; omega) | (simp only [sz_alloc, sz_set, sz_drew, sz_drewN] at *; omega)) hmb.1 hmb.2 hn1).mono ?_
          rintro e w5 ⟨rfl, hb5⟩
          have HS5 : Since wd w5 := ⟨below_cat hse.out (below_cat (by repeat (first | exact Below.refl _ _ | refine Below.alloc ?_ (by first | omega | (simp only [sz_alloc, sz_set, sz_drew, sz_drewN]; omega) | (simp only [sz_alloc, sz_set, sz_drew, sz_drewN] at *; omega)) _ | refine Below.setCell ?_ (by first | omega | (simp only [sz_alloc, sz_set, sz_drew, sz_drewN]; omega) | (simp only [sz_alloc, sz_set, sz_drew, sz_drewN] at *; omega)) _ | refine Below.drew ?_ | refine below_drewN_ ?_ _)) hb5 (by first | omega | (simp only [sz_alloc, sz_set, sz_drew, sz_drewN]; omega) | (simp only [sz_alloc, sz_set, sz_drew, sz_drewN] at *; omega))) hse.out.size⟩
          have hz5 := HS5.out.size
          have HW5 := Lib.hid (HW.out.below (C := wr.heap.size) (below_cat (by repeat (first | exact Below.refl _ _ | refine Below.alloc ?_ (by first | omega | (simp only [sz_alloc, sz_set, sz_drew, sz_drewN]; omega) | (simp only [sz_alloc, sz_set, sz_drew, sz_drewN] at *; omega)) _ | refine Below.setCell ?_ (by first | omega | (simp only [sz_alloc, sz_set, sz_drew, sz_drewN]; omega) | (simp only [sz_alloc, sz_set, sz_drew, sz_drewN] at *; omega)) _ | refine Below.drew ?_ | refine below_drewN_ ?_ _)) hb5 (by first | omega | (simp only [sz_alloc, sz_set, sz_drew, sz_drewN]; omega) | (simp only [sz_alloc, sz_set, sz_drew, sz_drewN] at *; omega))) (Nat.le_refl _))
          go_wp2_with (at_builtin; refine wpList_push (α := Int × Int) _ rfl (.tmp 30) (.tmp 34) 92 rfl wd.heap.size 94 (.agg #[.int .i64 0, .int .i64 0]) 16 Try.underlying92 infoMove rfl A' j c' _ [] rfl (HW5.out.below (C := w5.heap.size) (by repeat (first | exact Below.refl _ _ | refine Below.alloc ?_ (by first | omega | (simp only [sz_alloc, sz_set, sz_drew, sz_drewN]; omega) | (simp only [sz_alloc, sz_set, sz_drew, sz_drewN] at *; omega)) _ | refine Below.setCell ?_ (by first | omega | (simp only [sz_alloc, sz_set, sz_drew, sz_drewN]; omega) | (simp only [sz_alloc, sz_set, sz_drew, sz_drewN] at *; omega)) _ | refine Below.drew ?_ | refine below_drewN_ ?_ _)) (Nat.le_refl _)) w5.heap.size 1 rfl (raiseM n (x, y)) [.int .i64 (raiseM n (x, y)).1, .int .i64 (raiseM n (x, y)).2] [] ⟨rfl, rfl⟩ (new_cells (by first | rfl | simp [sz_set])) (fun u hu => by (simp at hu; rcases hu with rfl | rfl <;> rfl)) ⟨List.nodup_nil, fun g hg => by simp at hg⟩ (fun g hg => by simp at hg) (by omega) (by omega) (by first | omega | (simp only [sz_alloc, sz_set, sz_drew, sz_drewN]; omega) | (simp only [sz_alloc, sz_set, sz_drew, sz_drewN] at *; omega)) ?_
                       intro D1 d1 w6 hacc hgr hnew
                       have HS6 : Since wd w6 := ⟨Acc.since (HW5.out.below (C := w5.heap.size) (by repeat (first | exact Below.refl _ _ | refine Below.alloc ?_ (by first | omega | (simp only [sz_alloc, sz_set, sz_drew, sz_drewN]; omega) | (simp only [sz_alloc, sz_set, sz_drew, sz_drewN] at *; omega)) _ | refine Below.setCell ?_ (by first | omega | (simp only [sz_alloc, sz_set, sz_drew, sz_drewN]; omega) | (simp only [sz_alloc, sz_set, sz_drew, sz_drewN] at *; omega)) _ | refine Below.drew ?_ | refine below_drewN_ ?_ _)) (Nat.le_refl _)) hgr (below_cat HS5.out (by repeat (first | exact Below.refl _ _ | refine Below.alloc ?_ (by first | omega | (simp only [sz_alloc, sz_set, sz_drew, sz_drewN]; omega) | (simp only [sz_alloc, sz_set, sz_drew, sz_drewN] at *; omega)) _ | refine Below.setCell ?_ (by first | omega | (simp only [sz_alloc, sz_set, sz_drew, sz_drewN]; omega) | (simp only [sz_alloc, sz_set, sz_drew, sz_drewN] at *; omega)) _ | refine Below.drew ?_ | refine below_drewN_ ?_ _)) HS5.out.size) (Nat.le_refl _) (by first | omega | (simp only [sz_alloc, sz_set, sz_drew, sz_drewN]; omega) | (simp only [sz_alloc, sz_set, sz_drew, sz_drewN] at *; omega))⟩
                       have HA := Lib.hid hacc
                       clear hacc hgr hnew)
          go_roundw
          case rel => exact ⟨j + 1, D1, d1, by omega, by go_num, rfl, Lib.hid (by rw [HT2.out, List.map_append]; exact HA.out), HS6⟩
          case measure => simp [intOf]; omega
        · obtain rfl : j = row.length := by omega
          have HWX := HW.out
          rw [List.take_length] at HWX
          have HW := Lib.hid HWX
          clear HWX
          have QO := Lib.hid ((hse.out.block _ hzd).trans HD.out.2.1)
          have QR := Lib.hid ((hse.out.block _ (by omega)).trans HD.out.2.2)
          have d2 : wr.cell? ⟨w.heap.size + 2, 2, none⟩ = some (.slice A3 k c3) := cell_of_row wr _ 2 _ _ (0, 0) QO.out
          have HX : Hid (Acc (wr.alloc (.cells #[.slice A' row.length c'] 92)) (w.heap.size + 3) 92 A3 k c3 ((T.moves.take k).map (fun r => r.map (raiseM n))) bs) := Lib.hid (HD.out.1.below (C := wd.heap.size) (by repeat (first | exact Below.refl _ _ | exact Since.out (by assumption) | refine Below.alloc ?_ (by first | omega | (simp only [sz_alloc, sz_set, sz_drew, sz_drewN]; omega) | (simp only [sz_alloc, sz_set, sz_drew, sz_drewN] at *; omega)) _ | refine Below.setCell ?_ (by first | omega | (simp only [sz_alloc, sz_set, sz_drew, sz_drewN]; omega) | (simp only [sz_alloc, sz_set, sz_drew, sz_drewN] at *; omega)) _ | refine Below.drew ?_ | refine below_drewN_ ?_ _)) (Nat.le_refl _))
          go_wp2_with (at_builtin; obtain ⟨b2, hy, hf⟩ := (HW.out.alloc (.cells #[.slice A' row.length c'] 92)).row (by omega)
                       refine wpList_push (α := List (Int × Int)) _ rfl (.tmp 38) (.tmp 40) 32 rfl (w.heap.size + 3) 92 (.slice none 0 0) 24 Try.underlying32 infoMoveSS rfl A3 k c3 _ bs rfl HX.out wr.heap.size 1 rfl (row.map (raiseM n)) [.slice A' row.length c'] b2 hy (new_cells (by first | rfl | simp [sz_set])) (fun u hu => by (simp at hu; subst hu; rfl)) ⟨hf.1, fun g hg => ⟨by have := (hf.2 g hg).1; omega, (hf.2 g hg).2⟩⟩ (HD.out.1.apart hf (Nat.le_refl _)) (by omega) (by omega) (by first | omega | (simp only [sz_alloc, sz_set, sz_drew, sz_drewN]; omega) | (simp only [sz_alloc, sz_set, sz_drew, sz_drewN] at *; omega)) ?_
                       intro D3 d3 w9 hacc hgr hnew
                       have hB1 := Lib.hid (HX.out.box hgr (alloc_block QO.out (by first | omega | (simp only [sz_alloc, sz_set, sz_drew, sz_drewN]; omega) | (simp only [sz_alloc, sz_set, sz_drew, sz_drewN] at *; omega))) (by omega))
                       have hB2 := Lib.hid (HX.out.box hgr (alloc_block QR.out (by first | omega | (simp only [sz_alloc, sz_set, sz_drew, sz_drewN]; omega) | (simp only [sz_alloc, sz_set, sz_drew, sz_drewN] at *; omega))) (by omega))
                       have f3 : w9.frozen? ⟨w.heap.size + 2, 2, none⟩ = false := blk_free hB1.out
                       have k9 : w9.cell? ⟨w.heap.size + 2, 2, none⟩ = some (.slice A3 k c3) := cell_of_row w9 _ 2 _ _ (0, 0) hB1.out
                       have HS9 : Since w w9 := ⟨Acc.since HX.out hgr (below_cat SE.out (by repeat (first | exact Below.refl _ _ | refine Below.alloc ?_ (by first | omega | (simp only [sz_alloc, sz_set, sz_drew, sz_drewN]; omega) | (simp only [sz_alloc, sz_set, sz_drew, sz_drewN] at *; omega)) _ | refine Below.setCell ?_ (by first | omega | (simp only [sz_alloc, sz_set, sz_drew, sz_drewN]; omega) | (simp only [sz_alloc, sz_set, sz_drew, sz_drewN] at *; omega)) _ | refine Below.drew ?_ | refine below_drewN_ ?_ _)) SE.out.size) (by omega) (by first | omega | (simp only [sz_alloc, sz_set, sz_drew, sz_drewN]; omega) | (simp only [sz_alloc, sz_set, sz_drew, sz_drewN] at *; omega))⟩
                       have HA := Lib.hid hacc
                       clear hacc hgr hnew hy hf)
          go_roundw
          case rel =>
            refine ⟨k + 1, D3, d3, bs ++ b2, by omega, by go_num, Lib.hid ⟨?_, blk_set (i := 2) hB1.out _, blk_far hB2.out (by simp) _⟩, ⟨HS9.out.setCell (by simp only; omega) _⟩⟩
            rw [HT.out, List.map_append]
            exact HA.out.setLow (by simp only; omega) _
          case measure => simp [intOf]; omega
    · obtain rfl : k = T.moves.length := by omega
      have u0 : wd.cell? ⟨w.heap.size + 2, 0, none⟩ = some (.int .i64 T.letters) := cell_of_row wd _ 0 _ _ (0, 0) HD.out.2.1
      have u1 : wd.cell? ⟨w.heap.size + 2, 1, none⟩ = some (.int .i64 T.start) := cell_of_row wd _ 1 _ _ (0, 0) HD.out.2.1
      have u2 : wd.cell? ⟨w.heap.size + 2, 2, none⟩ = some (.slice A3 T.moves.length c3) := cell_of_row wd _ 2 _ _ (0, 0) HD.out.2.1
      have v0 : wd.cell? ⟨w.heap.size + 1, 0, none⟩ = some (.int .i64 0) := cell_of_row wd _ 0 _ _ (0, 0) HD.out.2.2
      have v1 : wd.cell? ⟨w.heap.size + 1, 1, none⟩ = some (.int .i64 0) := cell_of_row wd _ 1 _ _ (0, 0) HD.out.2.2
      have v2 : wd.cell? ⟨w.heap.size + 1, 2, none⟩ = some (.slice none 0 0) := cell_of_row wd _ 2 _ _ (0, 0) HD.out.2.2
      have x0 : wd.frozen? ⟨w.heap.size + 1, 0, none⟩ = false := blk_free HD.out.2.2
      have x1 : wd.frozen? ⟨w.heap.size + 1, 1, none⟩ = false := blk_free HD.out.2.2
      have x2 : wd.frozen? ⟨w.heap.size + 1, 2, none⟩ = false := blk_free HD.out.2.2
      have hA := HD.out.1
      rw [List.take_length] at hA
      have HA := Lib.hid hA
      clear hA
      go_wp2
      refine bodyPost_ret (v := .agg #[.int .i64 T.letters, .int .i64 T.start, .slice A3 T.moves.length c3]) (by simp [results, Try.results91, go_sem, v0, v1, v2]) rfl
        ⟨A3, c3, bs, rfl, ?_, (by repeat (first | exact Below.refl _ _ | exact Since.out (by assumption) | refine Below.alloc ?_ (by first | omega | (simp only [sz_alloc, sz_set, sz_drew, sz_drewN]; omega) | (simp only [sz_alloc, sz_set, sz_drew, sz_drewN] at *; omega)) _ | refine Below.setCell ?_ (by first | omega | (simp only [sz_alloc, sz_set, sz_drew, sz_drewN]; omega) | (simp only [sz_alloc, sz_set, sz_drew, sz_drewN] at *; omega)) _ | refine Below.drew ?_ | refine below_drewN_ ?_ _)), (by first | omega | (simp only [sz_alloc, sz_set, sz_drew, sz_drewN]; omega) | (simp only [sz_alloc, sz_set, sz_drew, sz_drewN] at *; omega))⟩
      exact ((HA.out.setLow (by simp only; omega) _).setLow (by simp only; omega) _).setLow (by simp only; omega) _
end Go.Proofs.Ytepjgaakihhngaa
