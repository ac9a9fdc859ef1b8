/-
  Contracts of the reference's tables of a mark. Conditions: those in each statement.
-/
import Derived.Test.YtepjgaakihhngaaMarkLaw
import Derived.Test.YtepjgaakihhngaaJoinC
import Derived.Test.YtepjgaakihhngaaTail
set_option linter.unusedVariables false
set_option linter.unusedSimpArgs false
set_option maxRecDepth 100000
set_option maxHeartbeats 1000000
namespace Go.Proofs.Ytepjgaakihhngaa
open Go.RowKit

set_option maxHeartbeats 4000000 in
theorem l03Mark (b : Nat) (A : Option Addr) (c : Nat) (T : Tn) (w : World) (k1 : w.cell? ⟨b, 2, none⟩ = some (.slice A T.moves.length c)) (hb : b < w.heap.size) (r1 : RdS w w.heap.size A T.moves) (OK : T.Ok) (s a : Nat) (hs : s < T.moves.length) (ha : (a : Int) < T.letters + 2) :
    Calls Try.prog 165 #[.pointer (some ⟨b, 0, none⟩), .int .i64 s, .int .i64 a] w fun e w' => e = .returned (.agg #[.int .i64 (mkE T.moves a (T.moves.length + 1) s).1, .int .i64 (mkE T.moves a (T.moves.length + 1) s).2]) ∧ Below w.heap.size w w' := by
  have hn := OK.n12
  go_enter Try.func165, Try.ntmps165
  go_wp2
  go_loopw [1, 7] (fun sv i wr => ∃ (k q : Nat), k ≤ T.moves.length + 1 ∧ sv = .int .i64 q ∧ i = .int .i64 k ∧ q < T.moves.length ∧ Hid (mkE T.moves a (T.moves.length + 1) s = mkE T.moves a (T.moves.length + 1 - k) q) ∧
      Hid (wr.heap[w.heap.size]? = some (.cells #[.int .i64 0, .int .i64 0] 141 (0, 0))) ∧ Since w wr) (fun _ i _ => T.moves.length + 2 - (intOf i).toNat)
  case atStart => exact ⟨0, s, by omega, rfl, rfl, hs, Lib.hid rfl, Lib.hid (new_block rfl), ⟨(by repeat (first | exact Below.refl _ _ | refine Below.alloc ?_ (by first | omega | (simp only [sz_alloc, sz_set, sz_drew, sz_drewN]; omega) | (simp only [sz_alloc, sz_set, sz_drew, sz_drewN] at *; omega)) _ | refine Below.setCell ?_ (by first | omega | (simp only [sz_alloc, sz_set, sz_drew, sz_drewN]; omega) | (simp only [sz_alloc, sz_set, sz_drew, sz_drewN] at *; omega)) _ | refine Below.drew ?_ | refine below_drewN_ ?_ _))⟩⟩
  case round =>
    obtain ⟨k, q, hk, rfl, rfl, hq, heq, hB, hsw⟩ := hrel
    have hz : w.heap.size < wr.heap.size := (Array.getElem?_eq_some_iff.1 hB.out).1
    have m1 : wr.cell? ⟨b, 2, none⟩ = some (.slice A T.moves.length c) := (hsw.out.cell hb).trans k1
    have r0 : wr.cell? ⟨w.heap.size, 0, none⟩ = some (.int .i64 0) := cell_of_row wr _ 0 _ _ (0, 0) hB.out
    have r1' : wr.cell? ⟨w.heap.size, 1, none⟩ = some (.int .i64 0) := cell_of_row wr _ 1 _ _ (0, 0) hB.out
    have e0 : wr.frozen? ⟨w.heap.size, 0, none⟩ = false := blk_free hB.out
    have e1 : wr.frozen? ⟨w.heap.size, 1, none⟩ = false := blk_free hB.out
    have hbr : b < wr.heap.size := Nat.lt_of_lt_of_le hb hsw.out.size
    have ne1 : b ≠ w.heap.size := by omega
    by_cases hlt : k ≤ T.moves.length
    · obtain ⟨row, hrow⟩ := get_some hq
      have hl := OK.row row (List.mem_of_getElem? hrow)
      obtain ⟨m, hm⟩ := get_some (xs := row) (k := a) (by omega)
      have hmv := mvAt_of hrow hm
      have hok := moveOk_cases (Tn.mv_ok OK hq ha)
      rw [hmv] at hok
      obtain ⟨b', o, P, p, rfl, hbb, c2, hxl, rx⟩ := (r1.up hsw.out).row hrow
      obtain ⟨f, g, rfl, hff, c5, c6⟩ := rx.pair hm
      obtain ⟨j, hj⟩ : ∃ j, T.moves.length + 1 - k = j + 1 := ⟨T.moves.length - k, by omega⟩
      have i1 : (0 : Int) ≤ (q : Int) := by omega
      have i2 : (q : Int) < (T.moves.length : Int) := by omega
      have i3 : (0 : Int) ≤ (a : Int) := by omega
      have i4 : (a : Int) < (row.length : Int) := by omega
      have i5 : (k : Int) ≤ (T.moves.length : Int) := by omega
      have heq := heq.out
      rw [hj] at heq
      obtain ⟨t, d⟩ := m
      simp only at c5 c6 hok
      have HOK := Lib.hid hok
      have HMV := Lib.hid hmv
      have HJ := Lib.hid hj
      clear hm hrow hmv hj hl hok
      by_cases ht : t < 0
      · have HE : Hid (mkE T.moves a (T.moves.length + 1) s = (d, t)) := Lib.hid (by rw [heq, mkE_stop (by rw [HMV.out]; exact .inl ht), HMV.out])
        clear heq
        go_wp2
        exact bodyPost_ret (v := .agg #[.int .i64 d, .int .i64 t]) (by simp [results, Try.results165, go_sem, *]) rfl ⟨by rw [HE.out], (by repeat (first | exact Below.refl _ _ | exact Since.out (by assumption) | refine Below.alloc ?_ (by first | omega | (simp only [sz_alloc, sz_set, sz_drew, sz_drewN]; omega) | (simp only [sz_alloc, sz_set, sz_drew, sz_drewN] at *; omega)) _ | refine Below.setCell ?_ (by first | omega | (simp only [sz_alloc, sz_set, sz_drew, sz_drewN]; omega) | (simp only [sz_alloc, sz_set, sz_drew, sz_drewN] at *; omega)) _ | refine Below.drew ?_ | refine below_drewN_ ?_ _))⟩
      · by_cases hd : d = 0
        · subst hd
          have HE : Hid (mkE T.moves a (T.moves.length + 1) s = mkE T.moves a j t.toNat) := Lib.hid (by rw [heq, mkE_go (by rw [HMV.out]; simp; omega), HMV.out])
          have ht2 : t < (T.moves.length : Int) := by have := HOK.out; omega
          obtain ⟨u, rfl⟩ := Int.eq_ofNat_of_zero_le (show 0 ≤ t by omega)
          clear heq
          go_wp2
          go_roundw
          case rel => exact ⟨k + 1, u, by omega, rfl, by go_num, by omega, Lib.hid (by rw [HE.out]; congr 1; have := HJ.out; omega), Lib.hid (alloc_block hB.out hz), ⟨(by repeat (first | exact Below.refl _ _ | exact Since.out (by assumption) | refine Below.alloc ?_ (by first | omega | (simp only [sz_alloc, sz_set, sz_drew, sz_drewN]; omega) | (simp only [sz_alloc, sz_set, sz_drew, sz_drewN] at *; omega)) _ | refine Below.setCell ?_ (by first | omega | (simp only [sz_alloc, sz_set, sz_drew, sz_drewN]; omega) | (simp only [sz_alloc, sz_set, sz_drew, sz_drewN] at *; omega)) _ | refine Below.drew ?_ | refine below_drewN_ ?_ _))⟩⟩
          case measure => simp [intOf]; omega
        · have HE : Hid (mkE T.moves a (T.moves.length + 1) s = (d, t)) := Lib.hid (by rw [heq, mkE_stop (by rw [HMV.out]; exact .inr hd), HMV.out])
          have q2 : (d != 0) = true := by simp [hd]
          clear heq hd
          go_wp2
          exact bodyPost_ret (v := .agg #[.int .i64 d, .int .i64 t]) (by simp [results, Try.results165, go_sem, *]) rfl ⟨by rw [HE.out], (by repeat (first | exact Below.refl _ _ | exact Since.out (by assumption) | refine Below.alloc ?_ (by first | omega | (simp only [sz_alloc, sz_set, sz_drew, sz_drewN]; omega) | (simp only [sz_alloc, sz_set, sz_drew, sz_drewN] at *; omega)) _ | refine Below.setCell ?_ (by first | omega | (simp only [sz_alloc, sz_set, sz_drew, sz_drewN]; omega) | (simp only [sz_alloc, sz_set, sz_drew, sz_drewN] at *; omega)) _ | refine Below.drew ?_ | refine below_drewN_ ?_ _))⟩
    · obtain rfl : k = T.moves.length + 1 := by omega
      have he := heq.out
      rw [Nat.sub_self] at he
      have HE := Lib.hid he
      clear he heq
      go_wp2
      exact bodyPost_ret (v := .agg #[.int .i64 0, .int .i64 (-3)]) (by simp [results, Try.results165, go_sem, *]) rfl ⟨by rw [HE.out]; rfl, (by repeat (first | exact Below.refl _ _ | exact Since.out (by assumption) | refine Below.alloc ?_ (by first | omega | (simp only [sz_alloc, sz_set, sz_drew, sz_drewN]; omega) | (simp only [sz_alloc, sz_set, sz_drew, sz_drewN] at *; omega)) _ | refine Below.setCell ?_ (by first | omega | (simp only [sz_alloc, sz_set, sz_drew, sz_drewN]; omega) | (simp only [sz_alloc, sz_set, sz_drew, sz_drewN] at *; omega)) _ | refine Below.drew ?_ | refine below_drewN_ ?_ _))⟩

set_option maxHeartbeats 4000000 in
theorem l03Marks (b : Nat) (A : Option Addr) (c : Nat) (T : Tn) (w : World) (k1 : w.cell? ⟨b, 2, none⟩ = some (.slice A T.moves.length c)) (hb : b < w.heap.size) (r1 : RdS w w.heap.size A T.moves) (OK : T.Ok) (a : Nat) (ha : (a : Int) < T.letters + 2) :
    Calls Try.prog 142 #[.pointer (some ⟨b, 0, none⟩), .int .i64 a] w (RetTb (T.edge a) w) := by
  have hn := OK.n12
  obtain ⟨p, hp⟩ : ∃ p, p = fun s => mkE T.moves a (T.moves.length + 1) s := ⟨_, rfl⟩
  obtain ⟨xs, hxs⟩ : ∃ xs, xs = fun n => edgeL T.moves a n := ⟨_, rfl⟩
  have C1 : ∀ (s : Nat) W, s < T.moves.length → Below w.heap.size w W → Calls Try.prog 165 #[.pointer (some ⟨b, 0, none⟩), .int .i64 s, .int .i64 a] W fun e w' => e = .returned (.agg #[.int .i64 (p s).1, .int .i64 (p s).2]) ∧ Below W.heap.size W w' := fun s W h hW => by
    rw [hp]
    exact l03Mark b A c T W ((hW.cell hb).trans k1) (Nat.lt_of_lt_of_le hb hW.size) (r1.up hW) OK s a h ha
  have D1 := Lib.hid C1
  have X0 : Hid (xs 0 = []) := Lib.hid (by rw [hxs]; rfl)
  have X1 : Hid (∀ n, xs (n + 1) = xs n ++ [p n]) := Lib.hid fun n => by rw [hxs, hp]; exact edgeL_snoc _ _ _
  have HJ : Hid (T.edge a = ⟨xs T.moves.length, xs T.moves.length⟩) := Lib.hid (by rw [hxs]; rfl)
  have XL : Hid ((xs T.moves.length).length = T.moves.length) := Lib.hid (by rw [hxs]; exact edgeL_len _ _ _)
  clear C1 hp hxs
  go_enter Try.func142, Try.ntmps142
  go_wp2
  go_loopw [6] (fun i wr => ∃ (k : Nat) (F G : Option Addr) (m n : Nat), k ≤ T.moves.length ∧ i = .int .i64 k ∧ Hid (Acc2 wr (w.heap.size + 2) 141 141 F k m (xs k) G k n (xs k)) ∧
      Hid (wr.heap[w.heap.size + 1]? = some (.cells #[.slice F k m, .slice G k n] 79 (0, 0))) ∧ Hid (wr.heap[w.heap.size]? = some (.cells #[.slice none 0 0, .slice none 0 0] 79 (0, 0))) ∧ Since w wr)
    (fun i _ => T.moves.length - (intOf i).toNat)
  case atStart =>
    refine ⟨0, none, none, 0, 0, Nat.zero_le _, rfl, Lib.hid (by rw [X0.out]; exact Acc2.nil_ _ _ _ _), ?_, ?_, ⟨(by repeat (first | exact Below.refl _ _ | refine Below.alloc ?_ (by first | omega | (simp only [sz_alloc, sz_set, sz_drew, sz_drewN]; omega) | (simp only [sz_alloc, sz_set, sz_drew, sz_drewN] at *; omega)) _ | refine Below.setCell ?_ (by first | omega | (simp only [sz_alloc, sz_set, sz_drew, sz_drewN]; omega) | (simp only [sz_alloc, sz_set, sz_drew, sz_drewN] at *; omega)) _ | refine Below.drew ?_ | refine below_drewN_ ?_ _))⟩⟩
    · exact Lib.hid (new_block (by simp))
    · exact Lib.hid (alloc_block (new_block rfl) (by simp))
  case round =>
    obtain ⟨k, F, G, m, n, hk, rfl, H, hB, hR, hs⟩ := hrel
    have hz : w.heap.size + 1 < wr.heap.size := (Array.getElem?_eq_some_iff.1 hB.out).1
    have m0 : wr.cell? ⟨w.heap.size + 1, 0, none⟩ = some (.slice F k m) := cell_of_row wr _ 0 _ _ (0, 0) hB.out
    have m1 : wr.cell? ⟨w.heap.size + 1, 1, none⟩ = some (.slice G k n) := cell_of_row wr _ 1 _ _ (0, 0) hB.out
    have m2 : wr.cell? ⟨b, 2, none⟩ = some (.slice A T.moves.length c) := (hs.out.cell hb).trans k1
    have g0 : wr.frozen? ⟨w.heap.size + 1, 0, none⟩ = false := blk_free hB.out
    have g1 : wr.frozen? ⟨w.heap.size + 1, 1, none⟩ = false := blk_free hB.out
    by_cases hlt : k < T.moves.length
    · have i1 : (0 : Int) ≤ (k : Int) := by omega
      have i2 : (k : Int) < (T.moves.length : Int) := by omega
      go_wp2_with fail
      refine (D1.out k _ hlt (by repeat (first | exact Below.refl _ _ | exact Since.out (by assumption) | refine Below.alloc ?_ (by first | omega | (simp only [sz_alloc, sz_set, sz_drew, sz_drewN]; omega) | (simp only [sz_alloc, sz_set, sz_drew, sz_drewN] at *; omega)) _ | refine Below.setCell ?_ (by first | omega | (simp only [sz_alloc, sz_set, sz_drew, sz_drewN]; omega) | (simp only [sz_alloc, sz_set, sz_drew, sz_drewN] at *; omega)) _ | refine Below.drew ?_ | refine below_drewN_ ?_ _))).mono ?_
      rintro e w1 ⟨rfl, hb1⟩
      have HBw1 : Since w w1 := ⟨below_cat (by repeat (first | exact Below.refl _ _ | exact Since.out (by assumption) | refine Below.alloc ?_ (by first | omega | (simp only [sz_alloc, sz_set, sz_drew, sz_drewN]; omega) | (simp only [sz_alloc, sz_set, sz_drew, sz_drewN] at *; omega)) _ | refine Below.setCell ?_ (by first | omega | (simp only [sz_alloc, sz_set, sz_drew, sz_drewN]; omega) | (simp only [sz_alloc, sz_set, sz_drew, sz_drewN] at *; omega)) _ | refine Below.drew ?_ | refine below_drewN_ ?_ _)) hb1 (by first | omega | (simp only [sz_alloc, sz_set, sz_drew, sz_drewN]; omega) | (simp only [sz_alloc, sz_set, sz_drew, sz_drewN] at *; omega))⟩; have hzw1 := hb1.size; (try simp only [sz_alloc, sz_set, sz_drew, sz_drewN] at hzw1); have hcw1k0 := fun o => hb1.cell (p := ⟨w.heap.size, o, none⟩) (by first | omega | (simp only [sz_alloc, sz_set, sz_drew, sz_drewN]; omega) | (simp only [sz_alloc, sz_set, sz_drew, sz_drewN] at *; omega)); have hfw1k0 := fun o => hb1.frozen (p := ⟨w.heap.size, o, none⟩) (by first | omega | (simp only [sz_alloc, sz_set, sz_drew, sz_drewN]; omega) | (simp only [sz_alloc, sz_set, sz_drew, sz_drewN] at *; omega)); have hlw1k0 : w.heap.size < w1.heap.size := (by first | omega | (simp only [sz_alloc, sz_set, sz_drew, sz_drewN]; omega) | (simp only [sz_alloc, sz_set, sz_drew, sz_drewN] at *; omega)); have hcw1k1 := fun o => hb1.cell (p := ⟨w.heap.size + 1, o, none⟩) (by first | omega | (simp only [sz_alloc, sz_set, sz_drew, sz_drewN]; omega) | (simp only [sz_alloc, sz_set, sz_drew, sz_drewN] at *; omega)); have hfw1k1 := fun o => hb1.frozen (p := ⟨w.heap.size + 1, o, none⟩) (by first | omega | (simp only [sz_alloc, sz_set, sz_drew, sz_drewN]; omega) | (simp only [sz_alloc, sz_set, sz_drew, sz_drewN] at *; omega)); have hlw1k1 : w.heap.size + 1 < w1.heap.size := (by first | omega | (simp only [sz_alloc, sz_set, sz_drew, sz_drewN]; omega) | (simp only [sz_alloc, sz_set, sz_drew, sz_drewN] at *; omega))
      have hwz := hs.out.size
      go_wp2_with (first
        | (at_builtin; refine wpList_push (α := Int × Int) _ (by rfl) (.tmp 23) (.tmp 25) 77 (by rfl) (w.heap.size + 2) 141 (.agg #[.int .i64 0, .int .i64 0]) 16 Try.underlying77 infoExit rfl F k m _ [] (by rfl) (((H.out.one.below hb1 (Nat.le_refl _)).alloc _).alloc _) (w1.heap.size + 1) 1 (by rfl) (p k) [.int .i64 (p k).1, .int .i64 (p k).2] [] ⟨rfl, rfl⟩ (new_cells (by first | rfl | simp [sz_set])) (fun u hu => by (simp at hu; rcases hu with rfl | rfl <;> rfl)) ⟨List.nodup_nil, fun g hg => by simp at hg⟩ (fun g hg => by simp at hg) (by omega) (by omega) (by first | omega | (simp only [sz_alloc, sz_set, sz_drew, sz_drewN]; omega) | (simp only [sz_alloc, sz_set, sz_drew, sz_drewN] at *; omega)) ?_
           intro F1 m1' w2 hacc hgr hnew
           have hB1 := Lib.hid (Acc.box (((H.out.one.below hb1 (Nat.le_refl _)).alloc _).alloc _) hgr (alloc_block (alloc_block ((hb1.block _ hz).trans hB.out) (by first | omega | (simp only [sz_alloc, sz_set, sz_drew, sz_drewN]; omega) | (simp only [sz_alloc, sz_set, sz_drew, sz_drewN] at *; omega))) (by first | omega | (simp only [sz_alloc, sz_set, sz_drew, sz_drewN]; omega) | (simp only [sz_alloc, sz_set, sz_drew, sz_drewN] at *; omega))) (by omega))
           have hR1 := Lib.hid (Acc.box (((H.out.one.below hb1 (Nat.le_refl _)).alloc _).alloc _) hgr (alloc_block (alloc_block ((hb1.block _ (by omega)).trans hR.out) (by first | omega | (simp only [sz_alloc, sz_set, sz_drew, sz_drewN]; omega) | (simp only [sz_alloc, sz_set, sz_drew, sz_drewN] at *; omega))) (by first | omega | (simp only [sz_alloc, sz_set, sz_drew, sz_drewN]; omega) | (simp only [sz_alloc, sz_set, sz_drew, sz_drewN] at *; omega))) (by omega))
           have hT1 := (grown_block hgr (k := w1.heap.size) (by first | omega | (simp only [sz_alloc, sz_set, sz_drew, sz_drewN]; omega) | (simp only [sz_alloc, sz_set, sz_drew, sz_drewN] at *; omega)) (fun a ha => by have := H.out.one.lt a ha; omega)).trans (alloc_block (new_block rfl) (by simp))
           have qt0 : w2.cell? ⟨w1.heap.size, 0, none⟩ = some (.int .i64 (p k).1) := cell_of_row w2 _ 0 _ _ (0, 0) hT1
           have qt1 : w2.cell? ⟨w1.heap.size, 1, none⟩ = some (.int .i64 (p k).2) := cell_of_row w2 _ 1 _ _ (0, 0) hT1
           have q0 : w2.cell? ⟨w.heap.size + 1, 0, none⟩ = some (.slice F k m) := cell_of_row w2 _ 0 _ _ (0, 0) hB1.out
           have q1 : w2.cell? ⟨w.heap.size + 1, 1, none⟩ = some (.slice G k n) := cell_of_row w2 _ 1 _ _ (0, 0) hB1.out
           have f0 : w2.frozen? ⟨w.heap.size + 1, 0, none⟩ = false := blk_free hB1.out
           have f1 : w2.frozen? ⟨w.heap.size + 1, 1, none⟩ = false := blk_free hB1.out
           have hz2 := hgr.size
           (try simp only [sz_alloc, sz_set, sz_drew, sz_drewN] at hz2)
           have ne3 : w1.heap.size ≠ w.heap.size + 1 := by omega
           have H2 := Lib.hid (((((H.out.below hb1 (Nat.le_refl _)).alloc _).alloc _).grow1 hacc hgr hnew).setCell (p := ⟨w.heap.size + 1, 0, none⟩) (by simp) (.slice F1 (k + 1) m1'))
           have S2 : Since w (w2.setCell ⟨w.heap.size + 1, 0, none⟩ (.slice F1 (k + 1) m1')) := ⟨(Acc.since (((H.out.one.below hb1 (Nat.le_refl _)).alloc _).alloc _) hgr (by repeat (first | exact Below.refl _ _ | exact Since.out (by assumption) | refine Below.alloc ?_ (by first | omega | (simp only [sz_alloc, sz_set, sz_drew, sz_drewN]; omega) | (simp only [sz_alloc, sz_set, sz_drew, sz_drewN] at *; omega)) _ | refine Below.setCell ?_ (by first | omega | (simp only [sz_alloc, sz_set, sz_drew, sz_drewN]; omega) | (simp only [sz_alloc, sz_set, sz_drew, sz_drewN] at *; omega)) _ | refine Below.drew ?_ | refine below_drewN_ ?_ _)) (by omega) (by first | omega | (simp only [sz_alloc, sz_set, sz_drew, sz_drewN]; omega) | (simp only [sz_alloc, sz_set, sz_drew, sz_drewN] at *; omega))).setCell (by simp) _⟩
           clear hacc hgr hnew hT1)
        | (at_builtin; refine wpList_push (α := Int × Int) _ (by rfl) (.tmp 29) (.tmp 31) 77 (by rfl) (w.heap.size + 2) 141 (.agg #[.int .i64 0, .int .i64 0]) 16 Try.underlying77 infoExit rfl G k n _ [] (by rfl) (H2.out.two.alloc _) w2.heap.size 1 (by rfl) (p k) [.int .i64 (p k).1, .int .i64 (p k).2] [] ⟨rfl, rfl⟩ (new_cells (by first | rfl | simp [sz_set])) (fun u hu => by (simp at hu; rcases hu with rfl | rfl <;> rfl)) ⟨List.nodup_nil, fun g hg => by simp at hg⟩ (fun g hg => by simp at hg) (by omega) (by omega) (by first | omega | (simp only [sz_alloc, sz_set, sz_drew, sz_drewN]; omega) | (simp only [sz_alloc, sz_set, sz_drew, sz_drewN] at *; omega)) ?_
           intro G1 n1' w4 hacc hgr hnew
           have hB3 := Lib.hid (Acc.box (H2.out.two.alloc _) hgr (alloc_block (blk_set (i := 0) hB1.out _) (by first | omega | (simp only [sz_alloc, sz_set, sz_drew, sz_drewN]; omega) | (simp only [sz_alloc, sz_set, sz_drew, sz_drewN] at *; omega))) (by omega))
           have hR3 := Lib.hid (Acc.box (H2.out.two.alloc _) hgr (alloc_block (blk_far hR1.out (by simp) _) (by first | omega | (simp only [sz_alloc, sz_set, sz_drew, sz_drewN]; omega) | (simp only [sz_alloc, sz_set, sz_drew, sz_drewN] at *; omega))) (by omega))
           have r0 : w4.cell? ⟨w.heap.size + 1, 0, none⟩ = some (.slice F1 (k + 1) m1') := cell_of_row w4 _ 0 _ _ (0, 0) hB3.out
           have r1 : w4.cell? ⟨w.heap.size + 1, 1, none⟩ = some (.slice G k n) := cell_of_row w4 _ 1 _ _ (0, 0) hB3.out
           have e0 : w4.frozen? ⟨w.heap.size + 1, 0, none⟩ = false := blk_free hB3.out
           have e1 : w4.frozen? ⟨w.heap.size + 1, 1, none⟩ = false := blk_free hB3.out
           have H4 := Lib.hid (((H2.out.alloc _).grow2 hacc hgr hnew).setCell (p := ⟨w.heap.size + 1, 1, none⟩) (by simp) (.slice G1 (k + 1) n1'))
           have S4 : Since w (w4.setCell ⟨w.heap.size + 1, 1, none⟩ (.slice G1 (k + 1) n1')) := ⟨(Acc.since (H2.out.two.alloc _) hgr (by repeat (first | exact Below.refl _ _ | exact Since.out (by assumption) | refine Below.alloc ?_ (by first | omega | (simp only [sz_alloc, sz_set, sz_drew, sz_drewN]; omega) | (simp only [sz_alloc, sz_set, sz_drew, sz_drewN] at *; omega)) _ | refine Below.setCell ?_ (by first | omega | (simp only [sz_alloc, sz_set, sz_drew, sz_drewN]; omega) | (simp only [sz_alloc, sz_set, sz_drew, sz_drewN] at *; omega)) _ | refine Below.drew ?_ | refine below_drewN_ ?_ _)) (by omega) (by first | omega | (simp only [sz_alloc, sz_set, sz_drew, sz_drewN]; omega) | (simp only [sz_alloc, sz_set, sz_drew, sz_drewN] at *; omega))).setCell (by simp) _⟩
           clear hacc hgr hnew))
      go_roundw
      case rel => exact ⟨k + 1, F1, G1, m1', n1', by omega, by go_num, Lib.hid (by rw [X1.out]; exact H4.out), Lib.hid (blk_set (i := 1) hB3.out _), Lib.hid (blk_far hR3.out (by simp) _), S4⟩
      case measure => simp [intOf]; omega
    · obtain rfl : k = T.moves.length := by omega
      have HF := H.out
      have r0 : wr.cell? ⟨w.heap.size, 0, none⟩ = some (.slice none 0 0) := cell_of_row wr _ 0 _ _ (0, 0) hR.out
      have r1 : wr.cell? ⟨w.heap.size, 1, none⟩ = some (.slice none 0 0) := cell_of_row wr _ 1 _ _ (0, 0) hR.out
      have e0 : wr.frozen? ⟨w.heap.size, 0, none⟩ = false := blk_free hR.out
      have e1 : wr.frozen? ⟨w.heap.size, 1, none⟩ = false := blk_free hR.out
      have HF := Lib.hid HF
      go_wp2
      have HFF := (HF.out.setCell (p := ⟨w.heap.size, 0, none⟩) (by simp) (.slice F T.moves.length m)).setCell (p := ⟨w.heap.size, 1, none⟩) (by simp) (.slice G T.moves.length n)
      obtain ⟨x, x', o1, o2, hf, _, _⟩ := HFF.one.own2 HFF.two HFF.dis
      refine bodyPost_ret (v := .agg #[.slice F T.moves.length m, .slice G T.moves.length n]) (by simp [results, Try.results142, go_sem, r0, r1]) rfl ⟨_, x ++ x', rfl, ?_, ⟨hf.1, fun g hg => ⟨by have := (hf.2 g hg).1; omega, (hf.2 g hg).2⟩⟩, ?_⟩
      · rw [HJ.out]
        exact ⟨F, m, G, n, x, x', by simp [XL.out], o1, o2, rfl⟩
      · exact (hs.out.setCell (by simp) _).setCell (by simp) _
end Go.Proofs.Ytepjgaakihhngaa
