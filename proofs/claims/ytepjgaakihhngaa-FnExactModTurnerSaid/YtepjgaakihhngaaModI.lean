/-
  Contract of the program's ModTurner. Conditions: those in each statement.
-/
import Derived.Test.YtepjgaakihhngaaMinMax
import Derived.Test.YtepjgaakihhngaaRep
set_option linter.unusedVariables false
set_option linter.unusedSimpArgs false
set_option maxRecDepth 100000
set_option maxHeartbeats 1000000
namespace Go.Proofs.Ytepjgaakihhngaa
open Go.RowKit

theorem fromAt_elem {ms : List Int} {x : Int} (h : x ∈ ms) : x.toNat ≤ fromAt ms ms.length := by
  obtain ⟨k, hk⟩ := List.getElem?_of_mem h
  have h1 := fromAt_le (ms := ms) (i := k + 1) (n := ms.length) (List.getElem?_eq_some_iff.1 hk).1
  have h2 : fromAt ms (k + 1) = fromAt ms k + modAt ms k := rfl
  rw [modAt_of hk] at h2
  omega
set_option maxHeartbeats 8000000 in
theorem modTurner_impl (A : Option Addr) (c : Nat) (L : Int) (ms : List Int) (w : World) (r1 : RdS w w.heap.size A ms) (hn : ms.length ≤ 1048576) :
    Calls Try.prog 31 #[.int .i64 L, .slice A ms.length c] w (RetTnC (modC L ms) (modCode L ms) w) := by
  by_cases hL : inB L 1 3 = true
  · by_cases h0 : ms.length = 0
    · have hC : Hid (modC L ms = nilTn ∧ modCode L ms = 2) := Lib.hid (by
        have : modIn L ms = false := by unfold modIn; rw [List.length_eq_zero_iff.1 h0]; simp
        unfold modC modCode; rw [this]; simp)
      rw [hC.out.1, hC.out.2]
      have hm : ((ms.length : Int) == 0) = true := by simp [h0]
      clear h0
      go_enter Try.func31, Try.ntmps31
      go_wp2_with (go_at_call 80; refine (isAlphabet_lit true _ _ hL).mono ?_; rintro e w1 ⟨rfl, rfl⟩)
      exact bodyPost_ret (v := .tuple #[.agg #[.int .i64 0, .int .i64 0, .slice none 0 0], .int .i64 2]) (by simp [results, Try.results31, go_sem, ]) rfl
        ⟨_, [], rfl, ⟨none, 0, [], rfl, .inl ⟨rfl, rfl⟩, rfl⟩, ⟨List.nodup_nil, fun g hg => by simp at hg⟩, (by repeat (first | exact Below.refl _ _ | exact Since.out (by assumption) | refine Below.alloc ?_ (by first | omega | (simp only [sz_alloc, sz_set, sz_drew, sz_drewN]; omega) | (simp only [sz_alloc, sz_set, sz_drew, sz_drewN] at *; omega)) _ | refine Below.setCell ?_ (by first | omega | (simp only [sz_alloc, sz_set, sz_drew, sz_drewN]; omega) | (simp only [sz_alloc, sz_set, sz_drew, sz_drewN] at *; omega)) _ | refine Below.drew ?_ | refine below_drewN_ ?_ _))⟩

    · obtain ⟨l1, l3⟩ := inB_iff.1 hL
      obtain ⟨l, rfl⟩ := Int.eq_ofNat_of_zero_le (show 0 ≤ L by omega)
      have hm : ((ms.length : Int) == 0) = false := beq_false_of_ne (by omega)
      have HL := Lib.hid hL
      have HN0 := Lib.hid h0
      have hpos : 0 < ms.length := by omega
      clear h0 hL
      go_enter Try.func31, Try.ntmps31
      go_wp2_with (go_at_call 80; refine (isAlphabet_lit true _ _ HL.out).mono ?_; rintro e w1 ⟨rfl, rfl⟩)
      refine (slicesMin A ms c _ (r1.up (by repeat (first | exact Below.refl _ _ | refine Below.alloc ?_ (by first | omega | (simp only [sz_alloc, sz_set, sz_drew, sz_drewN]; omega) | (simp only [sz_alloc, sz_set, sz_drew, sz_drewN] at *; omega)) _ | refine Below.setCell ?_ (by first | omega | (simp only [sz_alloc, sz_set, sz_drew, sz_drewN]; omega) | (simp only [sz_alloc, sz_set, sz_drew, sz_drewN] at *; omega)) _ | refine Below.drew ?_ | refine below_drewN_ ?_ _))) hpos hn).mono ?_
      rintro e w1 ⟨rfl, mn, rfl, hmn, hmin⟩
      by_cases hm1 : mn < 1
      · have hC : Hid (modC l ms = nilTn ∧ modCode l ms = 2) := Lib.hid (by
        have : modIn l ms = false := by
          unfold modIn
          have : (ms.all fun m => decide (1 ≤ m)) = false := by
            rw [List.all_eq_false]
            exact ⟨mn, hmn, by simp; omega⟩
          rw [this]; simp
        unfold modC modCode; rw [this]; simp)
        clear hmin
        go_wp2
        exact bodyPost_ret (v := .tuple #[.agg #[.int .i64 0, .int .i64 0, .slice none 0 0], .int .i64 2]) (by simp [results, Try.results31, go_sem, ]) rfl
          (by rw [hC.out.1, hC.out.2]; exact ⟨_, [], rfl, ⟨none, 0, [], rfl, .inl ⟨rfl, rfl⟩, rfl⟩, ⟨List.nodup_nil, fun g hg => by simp at hg⟩, (by repeat (first | exact Below.refl _ _ | exact Since.out (by assumption) | refine Below.alloc ?_ (by first | omega | (simp only [sz_alloc, sz_set, sz_drew, sz_drewN]; omega) | (simp only [sz_alloc, sz_set, sz_drew, sz_drewN] at *; omega)) _ | refine Below.setCell ?_ (by first | omega | (simp only [sz_alloc, sz_set, sz_drew, sz_drewN]; omega) | (simp only [sz_alloc, sz_set, sz_drew, sz_drewN] at *; omega)) _ | refine Below.drew ?_ | refine below_drewN_ ?_ _))⟩)

      · have HALL : Hid (∀ x ∈ ms, 1 ≤ x) := Lib.hid (fun x hx => by have := hmin x hx; omega)
        have HIN : Hid (modIn l ms = true) := Lib.hid (by
          unfold modIn
          rw [HL.out]
          have : ms.isEmpty = false := by cases ms with | nil => exact absurd rfl HN0.out | cons => rfl
          rw [this]
          simpa using HALL.out)
        clear hmin hmn
        by_cases h12 : ms.length ≤ 12
        · have h12' : (ms.length : Int) ≤ 12 := by omega
          go_wp2_with fail
          refine (slicesMax A ms c _ (r1.up (by repeat (first | exact Below.refl _ _ | refine Below.alloc ?_ (by first | omega | (simp only [sz_alloc, sz_set, sz_drew, sz_drewN]; omega) | (simp only [sz_alloc, sz_set, sz_drew, sz_drewN] at *; omega)) _ | refine Below.setCell ?_ (by first | omega | (simp only [sz_alloc, sz_set, sz_drew, sz_drewN]; omega) | (simp only [sz_alloc, sz_set, sz_drew, sz_drewN] at *; omega)) _ | refine Below.drew ?_ | refine below_drewN_ ?_ _))) hpos hn).mono ?_
          rintro e w1 ⟨rfl, mx, rfl, hmx, hmax⟩
          by_cases hx12 : mx > 12
          · have hC : Hid (modC l ms = nilTn ∧ modCode l ms = 3) := Lib.hid (by
              have h := fromAt_elem hmx
              have : ¬ fromAt ms ms.length ≤ 12 := by omega
              unfold modC modCode; rw [HIN.out]; simp [this])
            clear hmax hmx
            go_wp2
            exact bodyPost_ret (v := .tuple #[.agg #[.int .i64 0, .int .i64 0, .slice none 0 0], .int .i64 3]) (by simp [results, Try.results31, go_sem, ]) rfl
              (by rw [hC.out.1, hC.out.2]; exact ⟨_, [], rfl, ⟨none, 0, [], rfl, .inl ⟨rfl, rfl⟩, rfl⟩, ⟨List.nodup_nil, fun g hg => by simp at hg⟩, (by repeat (first | exact Below.refl _ _ | exact Since.out (by assumption) | refine Below.alloc ?_ (by first | omega | (simp only [sz_alloc, sz_set, sz_drew, sz_drewN]; omega) | (simp only [sz_alloc, sz_set, sz_drew, sz_drewN] at *; omega)) _ | refine Below.setCell ?_ (by first | omega | (simp only [sz_alloc, sz_set, sz_drew, sz_drewN]; omega) | (simp only [sz_alloc, sz_set, sz_drew, sz_drewN] at *; omega)) _ | refine Below.drew ?_ | refine below_drewN_ ?_ _))⟩)

          · have HMAX : Hid (∀ x ∈ ms, x ≤ 12) := Lib.hid (fun x hx => by have := hmax x hx; omega)
            have HF144 : Hid (fromAt ms ms.length ≤ 144) := Lib.hid (by have := fromAt_max (k := 12) HMAX.out ms.length (Nat.le_refl _); omega)
            clear hmax hmx
            obtain ⟨x0, hx0⟩ := get_some (xs := ms) (k := 0) (by omega)
            obtain ⟨ba, oa, rfl, hba, -⟩ := r1.int hx0
            clear hx0 x0
            go_wp2
            go_loopw [7, 42] (fun fv i wr => ∃ (k f : Nat) (A3 : Option Addr) (c3 : Nat) (bs : List Nat), k ≤ ms.length ∧ fv = .int .i64 f ∧ i = .int .i64 k ∧ Hid (f = fromAt ms k) ∧ Hid (Acc wr (w.heap.size + 2) 92 A3 f c3 (modRows l ms k) bs ∧ wr.heap[w.heap.size + 1]? = some (.cells #[.int .i64 l, .int .i64 0, .slice A3 f c3] 34 (0, 0)) ∧ wr.heap[w.heap.size]? = some (.cells #[.int .i64 0, .int .i64 0, .slice none 0 0] 34 (0, 0))) ∧ Since w wr) (fun _ i _ => ms.length - (intOf i).toNat)
            case atStart => exact ⟨0, 0, none, 0, [], Nat.zero_le _, rfl, rfl, Lib.hid rfl, Lib.hid ⟨Acc.nil_ _ _ _, new_block (by simp), alloc_block (new_block rfl) (by simp)⟩, ⟨(by repeat (first | exact Below.refl _ _ | refine Below.alloc ?_ (by first | omega | (simp only [sz_alloc, sz_set, sz_drew, sz_drewN]; omega) | (simp only [sz_alloc, sz_set, sz_drew, sz_drewN] at *; omega)) _ | refine Below.setCell ?_ (by first | omega | (simp only [sz_alloc, sz_set, sz_drew, sz_drewN]; omega) | (simp only [sz_alloc, sz_set, sz_drew, sz_drewN] at *; omega)) _ | refine Below.drew ?_ | refine below_drewN_ ?_ _))⟩⟩
            case round =>
              obtain ⟨k, f, A3, c3, bs, hk, rfl, rfl, hf, HD, hsc⟩ := hrel
              obtain ⟨wc, rfl⟩ : ∃ x, x = wr := ⟨_, rfl⟩
              by_cases hlt : k < ms.length
              · obtain ⟨x, hx⟩ := get_some hlt
                have hx1 := HALL.out x (List.mem_of_getElem? hx)
                have hx12 := HMAX.out x (List.mem_of_getElem? hx)
                obtain ⟨m, rfl⟩ := Int.eq_ofNat_of_zero_le (show 0 ≤ x by omega)
                have HFM : Hid (fromAt ms k = f ∧ modAt ms k = m) := Lib.hid ⟨hf.out.symm, by rw [modAt_of hx]; rfl⟩
                have hfm : f + m ≤ 144 := by
                  have h1 := fromAt_le (ms := ms) (i := k + 1) (n := ms.length) (by omega)
                  have h2 := HF144.out
                  have h3 : fromAt ms (k + 1) = fromAt ms k + modAt ms k := rfl
                  rw [HFM.out.1, HFM.out.2] at h3
                  omega
                obtain ⟨_, _, ⟨⟩, _, cxd⟩ := (r1.up hsc.out).int hx
                have i1 : (0 : Int) ≤ (k : Int) := by omega
                have i2 : (k : Int) < (ms.length : Int) := by omega
                have hm1 : 1 ≤ m := by omega
                clear hx hf
                cases hb : evB k with
                | true =>
                  have HRB : Hid (evB k = true) := Lib.hid hb
                  have hk2 : (k : Int) % 2 = 0 := by unfold evB at hb; simp at hb; omega
                  clear hb
                  go_wp2
                  clear hk2
                  go_loopw [56] (fun rv wr => ∃ (r : Nat) (A3 : Option Addr) (c3 : Nat) (bs : List Nat), r ≤ m ∧ rv = .int .i64 r ∧ Hid (Acc wr (w.heap.size + 2) 92 A3 (f + r) c3 (modRows l ms k ++ modBlk l ms k r) bs ∧ wr.heap[w.heap.size + 1]? = some (.cells #[.int .i64 l, .int .i64 0, .slice A3 (f + r) c3] 34 (0, 0)) ∧ wr.heap[w.heap.size]? = some (.cells #[.int .i64 0, .int .i64 0, .slice none 0 0] 34 (0, 0))) ∧ Since w wr) (fun i _ => m - (intOf i).toNat)
                  case atStart => exact ⟨0, A3, c3, bs, Nat.zero_le _, rfl, Lib.hid ⟨by simpa [modBlk] using HD.out.1, HD.out.2.1, HD.out.2.2⟩, hsc⟩
                  case round =>
                    obtain ⟨r, A3, c3, bs3, hr, rfl, HD, hsd⟩ := hrel
                    obtain ⟨wd, rfl⟩ : ∃ x, x = wr := ⟨_, rfl⟩
                    have hzd := hsd.out.size
                    have hzd2 : w.heap.size + 2 ≤ wd.heap.size := by have := (Array.getElem?_eq_some_iff.1 HD.out.2.1).1; omega
                    by_cases hrm : r < m
                    · have s1 : (0 : Int) ≤ (r : Int) := by omega
                      have s2 : (r : Int) < (m : Int) := by omega
                      have HWS : Hid (wrap64 ((f : Int) + ((r : Int) + 1) % (m : Int)) = ((f + (r + 1) % m : Nat) : Int)) := Lib.hid (by
                        have h1 : ((r : Int) + 1) % (m : Int) = (((r + 1) % m : Nat) : Int) := rfl
                        have h2 : (r + 1) % m < m := Nat.mod_lt _ (by omega)
                        rw [h1]; unfold wrap64; omega)
                      go_wp2_with fail
                      have CR := repMoves wd.heap.size 0 (modStep f m r true) (l + 2) (wd.alloc (.cells #[.int .i64 (wrap64 ((f : Int) + ((r : Int) + 1) % (m : Int))), .int .i64 1] 94)) (by rw [new_cells (l := [.int .i64 (wrap64 ((f : Int) + ((r : Int) + 1) % (m : Int))), .int .i64 1]) rfl 0 _ rfl, HWS.out]; rfl) (new_cells (l := [.int .i64 (wrap64 ((f : Int) + ((r : Int) + 1) % (m : Int))), .int .i64 1]) rfl 1 _ rfl) (by simp) (by omega)
                      refine CR.mono ?_
                      rintro e w5 ⟨G, rfl, hP, hG, hb5⟩
                      have HP := Lib.hid hP
                      have hs5 : Since wd w5 := ⟨below_cat (by repeat (first | exact Below.refl _ _ | refine Below.alloc ?_ (by first | omega | (simp only [sz_alloc, sz_set, sz_drew, sz_drewN]; omega) | (simp only [sz_alloc, sz_set, sz_drew, sz_drewN] at *; omega)) _ | refine Below.setCell ?_ (by first | omega | (simp only [sz_alloc, sz_set, sz_drew, sz_drewN]; omega) | (simp only [sz_alloc, sz_set, sz_drew, sz_drewN] at *; omega)) _ | refine Below.drew ?_ | refine below_drewN_ ?_ _)) hb5 (by first | omega | (simp only [sz_alloc, sz_set, sz_drew, sz_drewN]; omega) | (simp only [sz_alloc, sz_set, sz_drew, sz_drewN] at *; omega))⟩
                      (try simp only [sz_alloc] at hG)
                      have hz5 := hs5.out.size
                      clear hP hb5 CR
                      by_cases hr0 : r = 0
                      · subst hr0
                        have q0 : ((0 : Int) != 0) = false := rfl
                        by_cases hlast : k + 1 = ms.length
                        · have HLB : Hid (decide (k + 1 = ms.length) = true) := Lib.hid (decide_eq_true hlast)
                          have q1 : ((k : Int) == (ms.length : Int) - 1) = true := by simp; omega
                          clear hlast
                          have HE : Hid (modEnd f m 0 true true = ((-1), 0)) := Lib.hid (by unfold modEnd; simp [dirB])
                          have HON : Hid (modOn f 0 true = ((f : Int), 1)) := Lib.hid (by unfold modOn; simp [dirB])
                          have HROW : Hid (((List.replicate (l + 2) (modStep f m 0 true)).set l ((f : Int), 1)).set (l + 1) ((-1), 0) = modRow l f m 0 true true) := Lib.hid (by
                            have := modRow_set l f m 0 true true
                            rw [HE.out, HON.out] at this
                            exact this)
                          have hcA := HP.out.cell (k := l) (x := modStep f m 0 true) (by first | (simp; done) | (simp; omega))
                          have hcE := HP.out.cell (k := (l + 1)) (x := modStep f m 0 true) (by first | (simp; done) | (simp; omega))
                          have fA0 : w5.frozen? ⟨G, l * 2, none⟩ = false := HP.out.free
                          have fA1 : w5.frozen? ⟨G, l * 2 + 1, none⟩ = false := HP.out.free
                          have fE0 : w5.frozen? ⟨G, (l + 1) * 2, none⟩ = false := HP.out.free
                          have fE1 : w5.frozen? ⟨G, (l + 1) * 2 + 1, none⟩ = false := HP.out.free
                          have k5 : w5.cell? ⟨w.heap.size + 1, 2, none⟩ = some (.slice A3 (f + 0) c3) := cell_of_row w5 _ 2 _ _ (0, 0) ((hs5.out.block _ (by omega)).trans HD.out.2.1)
                          have hGne : G ≠ w.heap.size + 1 := by omega
                          obtain ⟨cA0, cA1⟩ := hcA
                          obtain ⟨cE0, cE1⟩ := hcE
                          have hP2 : Hid (Pairs ((((w5.setCell ⟨G, l * 2, none⟩ (.int .i64 ((f : Int)))).setCell ⟨G, l * 2 + 1, none⟩ (.int .i64 1)).setCell ⟨G, (l + 1) * 2, none⟩ (.int .i64 (-1))).setCell ⟨G, (l + 1) * 2 + 1, none⟩ (.int .i64 0)) G 94 (modRow l f m 0 true true)) := Lib.hid (by
                            rw [← HROW.out]
                            exact (HP.out.set (by first | (simp; done) | (simp; omega)) _ _).set (by first | (simp; done) | (simp; omega)) _ _)
                          have hOW : OnlyB [G] w5 ((((w5.setCell ⟨G, l * 2, none⟩ (.int .i64 ((f : Int)))).setCell ⟨G, l * 2 + 1, none⟩ (.int .i64 1)).setCell ⟨G, (l + 1) * 2, none⟩ (.int .i64 (-1))).setCell ⟨G, (l + 1) * 2 + 1, none⟩ (.int .i64 0)) := ((((OnlyB.refl [G] w5).setCell (by simp) _).setCell (by simp) _).setCell (by simp) _).setCell (by simp) _
                          have hGl := HP.out.lt
                          obtain ⟨W, hW⟩ : ∃ W, W = (((w5.setCell ⟨G, l * 2, none⟩ (.int .i64 ((f : Int)))).setCell ⟨G, l * 2 + 1, none⟩ (.int .i64 1)).setCell ⟨G, (l + 1) * 2, none⟩ (.int .i64 (-1))).setCell ⟨G, (l + 1) * 2 + 1, none⟩ (.int .i64 0) := ⟨_, rfl⟩
                          have hWs : W.heap.size = w5.heap.size := by rw [hW]; simp only [sz_set]
                          rw [← hW] at hP2 hOW
                          have SW : Since wd W := ⟨hs5.out.trans (hOW.below (fun g hg => by simp at hg; omega) (by omega))⟩
                          have hzW := SW.out.size
                          have QO := Lib.hid ((SW.out.block _ (by omega)).trans HD.out.2.1)
                          have QR := Lib.hid ((SW.out.block _ (by omega)).trans HD.out.2.2)
                          have kW : W.cell? ⟨w.heap.size + 1, 2, none⟩ = some (.slice A3 (f + 0) c3) := cell_of_row W _ 2 _ _ (0, 0) QO.out
                          have HX : Hid (Acc (W.alloc (.cells #[.slice (some ⟨G, 0, none⟩) (l + 2) (l + 2)] 92)) (w.heap.size + 2) 92 A3 (f + 0) c3 (modRows l ms k ++ modBlk l ms k 0) bs3) := Lib.hid (HD.out.1.below (C := wd.heap.size) (by repeat (first | exact Below.refl _ _ | exact Since.out (by assumption) | refine Below.alloc ?_ (by first | omega | (simp only [sz_alloc, sz_set, sz_drew, sz_drewN]; omega) | (simp only [sz_alloc, sz_set, sz_drew, sz_drewN] at *; omega)) _ | refine Below.setCell ?_ (by first | omega | (simp only [sz_alloc, sz_set, sz_drew, sz_drewN]; omega) | (simp only [sz_alloc, sz_set, sz_drew, sz_drewN] at *; omega)) _ | refine Below.drew ?_ | refine below_drewN_ ?_ _)) (Nat.le_refl _))
                          have hy : Hid (Cod.own (W.alloc (.cells #[.slice (some ⟨G, 0, none⟩) (l + 2) (l + 2)] 92)) (modRow l f m 0 true true) [.slice (some ⟨G, 0, none⟩) (l + 2) (l + 2)] [G]) := Lib.hid ⟨_, l + 2, by rw [modRow_len], by rw [modRow_len]; omega, hP2.out.own.keep (fun g hg => by simp at hg; subst hg; exact Below.heap_alloc W _ g hP2.out.lt)⟩
                          have hGW : G < W.heap.size := hP2.out.lt
                          go_wp2_with (first
                            | (rw [← hW])
                            | (at_builtin
                               refine wpList_push (α := List (Int × Int)) _ rfl (.tmp 106) (.tmp 108) 32 rfl (w.heap.size + 2) 92 (.slice none 0 0) 24 Try.underlying32 infoMoveSS rfl A3 (f + 0) c3 _ bs3 rfl HX.out w5.heap.size 1 rfl (modRow l f m 0 true true) [.slice (some ⟨G, 0, none⟩) (l + 2) (l + 2)] [G] hy.out (new_cells hWs.symm) (fun u hu => by (simp at hu; subst hu; rfl)) ⟨by simp, fun g hg => by (simp at hg; subst hg; exact ⟨by omega, (by first | omega | (simp only [sz_alloc, sz_set, sz_drew, sz_drewN]; omega) | (simp only [sz_alloc, sz_set, sz_drew, sz_drewN] at *; omega))⟩)⟩ (fun g hg => by (simp at hg; subst hg; exact ⟨fun hm => by (have := (HD.out.1.fresh.2 _ hm).2; omega), fun a ha e0 => by (have := (HD.out.1.lt a ha).2; omega)⟩)) (by omega) (by omega) (by first | omega | (simp only [sz_alloc, sz_set, sz_drew, sz_drewN]; omega) | (simp only [sz_alloc, sz_set, sz_drew, sz_drewN] at *; omega)) ?_
                               intro D3 d3 w9 hacc hgr hnew
                               have hB1 := Lib.hid (HX.out.box hgr (alloc_block QO.out (by first | omega | (simp only [sz_alloc, sz_set, sz_drew, sz_drewN]; omega) | (simp only [sz_alloc, sz_set, sz_drew, sz_drewN] at *; omega))) (by omega))
                               have hB2 := Lib.hid (HX.out.box hgr (alloc_block QR.out (by first | omega | (simp only [sz_alloc, sz_set, sz_drew, sz_drewN]; omega) | (simp only [sz_alloc, sz_set, sz_drew, sz_drewN] at *; omega))) (by omega))
                               have f3 : w9.frozen? ⟨w.heap.size + 1, 2, none⟩ = false := blk_free hB1.out
                               have k9 : w9.cell? ⟨w.heap.size + 1, 2, none⟩ = some (.slice A3 (f + 0) c3) := cell_of_row w9 _ 2 _ _ (0, 0) hB1.out
                               have HS9 : Since w w9 := ⟨Acc.since HX.out hgr (below_cat hsd.out (below_cat SW.out (by repeat (first | exact Below.refl _ _ | refine Below.alloc ?_ (by first | omega | (simp only [sz_alloc, sz_set, sz_drew, sz_drewN]; omega) | (simp only [sz_alloc, sz_set, sz_drew, sz_drewN] at *; omega)) _ | refine Below.setCell ?_ (by first | omega | (simp only [sz_alloc, sz_set, sz_drew, sz_drewN]; omega) | (simp only [sz_alloc, sz_set, sz_drew, sz_drewN] at *; omega)) _ | refine Below.drew ?_ | refine below_drewN_ ?_ _)) SW.out.size) hsd.out.size) (by omega) (by first | omega | (simp only [sz_alloc, sz_set, sz_drew, sz_drewN]; omega) | (simp only [sz_alloc, sz_set, sz_drew, sz_drewN] at *; omega))⟩
                               have HA := Lib.hid hacc
                               clear hacc hgr hnew))
                          go_roundw
                          case rel =>
                            refine ⟨0 + 1, D3, d3, bs3 ++ [G], by omega, by go_num, Lib.hid ⟨?_, blk_set (i := 2) hB1.out _, blk_far hB2.out (by simp) _⟩, ⟨HS9.out.setCell (by simp) _⟩⟩
                            rw [modBlk_snoc, ← List.append_assoc, HFM.out.1, HFM.out.2, HRB.out, HLB.out]
                            exact HA.out.setCell (fun a ha e => by have := (HA.out.lt a ha).1; simp only at e; omega) (fun hm => by have := (HA.out.fresh.2 _ hm).1; simp only at this; omega) _
                          case measure => simp [intOf]; omega

                        · have HLB : Hid (decide (k + 1 = ms.length) = false) := Lib.hid (decide_eq_false hlast)
                          have q1 : ((k : Int) == (ms.length : Int) - 1) = false := beq_false_of_ne (by omega)
                          clear hlast
                          have HE : Hid (modEnd f m 0 true false = (((f : Int) + (m : Int)), (-1))) := Lib.hid (by unfold modEnd; simp [dirB])
                          have HON : Hid (modOn f 0 true = ((f : Int), 1)) := Lib.hid (by unfold modOn; simp [dirB])
                          have HROW : Hid (((List.replicate (l + 2) (modStep f m 0 true)).set l ((f : Int), 1)).set (l + 1) (((f : Int) + (m : Int)), (-1)) = modRow l f m 0 true false) := Lib.hid (by
                            have := modRow_set l f m 0 true false
                            rw [HE.out, HON.out] at this
                            exact this)
                          have hcA := HP.out.cell (k := l) (x := modStep f m 0 true) (by first | (simp; done) | (simp; omega))
                          have hcE := HP.out.cell (k := (l + 1)) (x := modStep f m 0 true) (by first | (simp; done) | (simp; omega))
                          have fA0 : w5.frozen? ⟨G, l * 2, none⟩ = false := HP.out.free
                          have fA1 : w5.frozen? ⟨G, l * 2 + 1, none⟩ = false := HP.out.free
                          have fE0 : w5.frozen? ⟨G, (l + 1) * 2, none⟩ = false := HP.out.free
                          have fE1 : w5.frozen? ⟨G, (l + 1) * 2 + 1, none⟩ = false := HP.out.free
                          have k5 : w5.cell? ⟨w.heap.size + 1, 2, none⟩ = some (.slice A3 (f + 0) c3) := cell_of_row w5 _ 2 _ _ (0, 0) ((hs5.out.block _ (by omega)).trans HD.out.2.1)
                          have hGne : G ≠ w.heap.size + 1 := by omega
                          obtain ⟨cA0, cA1⟩ := hcA
                          obtain ⟨cE0, cE1⟩ := hcE
                          have hP2 : Hid (Pairs ((((w5.setCell ⟨G, l * 2, none⟩ (.int .i64 ((f : Int)))).setCell ⟨G, l * 2 + 1, none⟩ (.int .i64 1)).setCell ⟨G, (l + 1) * 2, none⟩ (.int .i64 ((f : Int) + (m : Int)))).setCell ⟨G, (l + 1) * 2 + 1, none⟩ (.int .i64 (-1))) G 94 (modRow l f m 0 true false)) := Lib.hid (by
                            rw [← HROW.out]
                            exact (HP.out.set (by first | (simp; done) | (simp; omega)) _ _).set (by first | (simp; done) | (simp; omega)) _ _)
                          have hOW : OnlyB [G] w5 ((((w5.setCell ⟨G, l * 2, none⟩ (.int .i64 ((f : Int)))).setCell ⟨G, l * 2 + 1, none⟩ (.int .i64 1)).setCell ⟨G, (l + 1) * 2, none⟩ (.int .i64 ((f : Int) + (m : Int)))).setCell ⟨G, (l + 1) * 2 + 1, none⟩ (.int .i64 (-1))) := ((((OnlyB.refl [G] w5).setCell (by simp) _).setCell (by simp) _).setCell (by simp) _).setCell (by simp) _
                          have hGl := HP.out.lt
                          obtain ⟨W, hW⟩ : ∃ W, W = (((w5.setCell ⟨G, l * 2, none⟩ (.int .i64 ((f : Int)))).setCell ⟨G, l * 2 + 1, none⟩ (.int .i64 1)).setCell ⟨G, (l + 1) * 2, none⟩ (.int .i64 ((f : Int) + (m : Int)))).setCell ⟨G, (l + 1) * 2 + 1, none⟩ (.int .i64 (-1)) := ⟨_, rfl⟩
                          have hWs : W.heap.size = w5.heap.size := by rw [hW]; simp only [sz_set]
                          rw [← hW] at hP2 hOW
                          have SW : Since wd W := ⟨hs5.out.trans (hOW.below (fun g hg => by simp at hg; omega) (by omega))⟩
                          have hzW := SW.out.size
                          have QO := Lib.hid ((SW.out.block _ (by omega)).trans HD.out.2.1)
                          have QR := Lib.hid ((SW.out.block _ (by omega)).trans HD.out.2.2)
                          have kW : W.cell? ⟨w.heap.size + 1, 2, none⟩ = some (.slice A3 (f + 0) c3) := cell_of_row W _ 2 _ _ (0, 0) QO.out
                          have HX : Hid (Acc (W.alloc (.cells #[.slice (some ⟨G, 0, none⟩) (l + 2) (l + 2)] 92)) (w.heap.size + 2) 92 A3 (f + 0) c3 (modRows l ms k ++ modBlk l ms k 0) bs3) := Lib.hid (HD.out.1.below (C := wd.heap.size) (by repeat (first | exact Below.refl _ _ | exact Since.out (by assumption) | refine Below.alloc ?_ (by first | omega | (simp only [sz_alloc, sz_set, sz_drew, sz_drewN]; omega) | (simp only [sz_alloc, sz_set, sz_drew, sz_drewN] at *; omega)) _ | refine Below.setCell ?_ (by first | omega | (simp only [sz_alloc, sz_set, sz_drew, sz_drewN]; omega) | (simp only [sz_alloc, sz_set, sz_drew, sz_drewN] at *; omega)) _ | refine Below.drew ?_ | refine below_drewN_ ?_ _)) (Nat.le_refl _))
                          have hy : Hid (Cod.own (W.alloc (.cells #[.slice (some ⟨G, 0, none⟩) (l + 2) (l + 2)] 92)) (modRow l f m 0 true false) [.slice (some ⟨G, 0, none⟩) (l + 2) (l + 2)] [G]) := Lib.hid ⟨_, l + 2, by rw [modRow_len], by rw [modRow_len]; omega, hP2.out.own.keep (fun g hg => by simp at hg; subst hg; exact Below.heap_alloc W _ g hP2.out.lt)⟩
                          have hGW : G < W.heap.size := hP2.out.lt
                          go_wp2_with (first
                            | (rw [← hW])
                            | (at_builtin
                               refine wpList_push (α := List (Int × Int)) _ rfl (.tmp 106) (.tmp 108) 32 rfl (w.heap.size + 2) 92 (.slice none 0 0) 24 Try.underlying32 infoMoveSS rfl A3 (f + 0) c3 _ bs3 rfl HX.out w5.heap.size 1 rfl (modRow l f m 0 true false) [.slice (some ⟨G, 0, none⟩) (l + 2) (l + 2)] [G] hy.out (new_cells hWs.symm) (fun u hu => by (simp at hu; subst hu; rfl)) ⟨by simp, fun g hg => by (simp at hg; subst hg; exact ⟨by omega, (by first | omega | (simp only [sz_alloc, sz_set, sz_drew, sz_drewN]; omega) | (simp only [sz_alloc, sz_set, sz_drew, sz_drewN] at *; omega))⟩)⟩ (fun g hg => by (simp at hg; subst hg; exact ⟨fun hm => by (have := (HD.out.1.fresh.2 _ hm).2; omega), fun a ha e0 => by (have := (HD.out.1.lt a ha).2; omega)⟩)) (by omega) (by omega) (by first | omega | (simp only [sz_alloc, sz_set, sz_drew, sz_drewN]; omega) | (simp only [sz_alloc, sz_set, sz_drew, sz_drewN] at *; omega)) ?_
                               intro D3 d3 w9 hacc hgr hnew
                               have hB1 := Lib.hid (HX.out.box hgr (alloc_block QO.out (by first | omega | (simp only [sz_alloc, sz_set, sz_drew, sz_drewN]; omega) | (simp only [sz_alloc, sz_set, sz_drew, sz_drewN] at *; omega))) (by omega))
                               have hB2 := Lib.hid (HX.out.box hgr (alloc_block QR.out (by first | omega | (simp only [sz_alloc, sz_set, sz_drew, sz_drewN]; omega) | (simp only [sz_alloc, sz_set, sz_drew, sz_drewN] at *; omega))) (by omega))
                               have f3 : w9.frozen? ⟨w.heap.size + 1, 2, none⟩ = false := blk_free hB1.out
                               have k9 : w9.cell? ⟨w.heap.size + 1, 2, none⟩ = some (.slice A3 (f + 0) c3) := cell_of_row w9 _ 2 _ _ (0, 0) hB1.out
                               have HS9 : Since w w9 := ⟨Acc.since HX.out hgr (below_cat hsd.out (below_cat SW.out (by repeat (first | exact Below.refl _ _ | refine Below.alloc ?_ (by first | omega | (simp only [sz_alloc, sz_set, sz_drew, sz_drewN]; omega) | (simp only [sz_alloc, sz_set, sz_drew, sz_drewN] at *; omega)) _ | refine Below.setCell ?_ (by first | omega | (simp only [sz_alloc, sz_set, sz_drew, sz_drewN]; omega) | (simp only [sz_alloc, sz_set, sz_drew, sz_drewN] at *; omega)) _ | refine Below.drew ?_ | refine below_drewN_ ?_ _)) SW.out.size) hsd.out.size) (by omega) (by first | omega | (simp only [sz_alloc, sz_set, sz_drew, sz_drewN]; omega) | (simp only [sz_alloc, sz_set, sz_drew, sz_drewN] at *; omega))⟩
                               have HA := Lib.hid hacc
                               clear hacc hgr hnew))
                          go_roundw
                          case rel =>
                            refine ⟨0 + 1, D3, d3, bs3 ++ [G], by omega, by go_num, Lib.hid ⟨?_, blk_set (i := 2) hB1.out _, blk_far hB2.out (by simp) _⟩, ⟨HS9.out.setCell (by simp) _⟩⟩
                            rw [modBlk_snoc, ← List.append_assoc, HFM.out.1, HFM.out.2, HRB.out, HLB.out]
                            exact HA.out.setCell (fun a ha e => by have := (HA.out.lt a ha).1; simp only at e; omega) (fun hm => by have := (HA.out.fresh.2 _ hm).1; simp only at this; omega) _
                          case measure => simp [intOf]; omega

                      · have HR0 := Lib.hid hr0
                        have q1 : ((r : Int) != 0) = true := by simp [hr0]
                        clear hr0
                        have HE : Hid (modEnd f m r true (decide (k + 1 = ms.length)) = ((-2), 0)) := Lib.hid (by unfold modEnd; simp [dirB, HR0.out])
                        have HON : Hid (modOn f r true = ((f : Int) + (r : Int), 1)) := Lib.hid (by unfold modOn; simp [dirB])
                        have HROW : Hid (((List.replicate (l + 2) (modStep f m r true)).set l ((f : Int) + (r : Int), 1)).set (l + 1) ((-2), 0) = modRow l f m r true (decide (k + 1 = ms.length))) := Lib.hid (by
                          have := modRow_set l f m r true (decide (k + 1 = ms.length))
                          rw [HE.out, HON.out] at this
                          exact this)
                        have hcA := HP.out.cell (k := l) (x := modStep f m r true) (by first | (simp; done) | (simp; omega))
                        have hcE := HP.out.cell (k := (l + 1)) (x := modStep f m r true) (by first | (simp; done) | (simp; omega))
                        have fA0 : w5.frozen? ⟨G, l * 2, none⟩ = false := HP.out.free
                        have fA1 : w5.frozen? ⟨G, l * 2 + 1, none⟩ = false := HP.out.free
                        have fE0 : w5.frozen? ⟨G, (l + 1) * 2, none⟩ = false := HP.out.free
                        have fE1 : w5.frozen? ⟨G, (l + 1) * 2 + 1, none⟩ = false := HP.out.free
                        have k5 : w5.cell? ⟨w.heap.size + 1, 2, none⟩ = some (.slice A3 (f + r) c3) := cell_of_row w5 _ 2 _ _ (0, 0) ((hs5.out.block _ (by omega)).trans HD.out.2.1)
                        have hGne : G ≠ w.heap.size + 1 := by omega
                        obtain ⟨cA0, cA1⟩ := hcA
                        obtain ⟨cE0, cE1⟩ := hcE
                        have hP2 : Hid (Pairs ((((w5.setCell ⟨G, l * 2, none⟩ (.int .i64 ((f : Int) + (r : Int)))).setCell ⟨G, l * 2 + 1, none⟩ (.int .i64 1)).setCell ⟨G, (l + 1) * 2, none⟩ (.int .i64 (-2))).setCell ⟨G, (l + 1) * 2 + 1, none⟩ (.int .i64 0)) G 94 (modRow l f m r true (decide (k + 1 = ms.length)))) := Lib.hid (by
                          rw [← HROW.out]
                          exact (HP.out.set (by first | (simp; done) | (simp; omega)) _ _).set (by first | (simp; done) | (simp; omega)) _ _)
                        have hOW : OnlyB [G] w5 ((((w5.setCell ⟨G, l * 2, none⟩ (.int .i64 ((f : Int) + (r : Int)))).setCell ⟨G, l * 2 + 1, none⟩ (.int .i64 1)).setCell ⟨G, (l + 1) * 2, none⟩ (.int .i64 (-2))).setCell ⟨G, (l + 1) * 2 + 1, none⟩ (.int .i64 0)) := ((((OnlyB.refl [G] w5).setCell (by simp) _).setCell (by simp) _).setCell (by simp) _).setCell (by simp) _
                        have hGl := HP.out.lt
                        obtain ⟨W, hW⟩ : ∃ W, W = (((w5.setCell ⟨G, l * 2, none⟩ (.int .i64 ((f : Int) + (r : Int)))).setCell ⟨G, l * 2 + 1, none⟩ (.int .i64 1)).setCell ⟨G, (l + 1) * 2, none⟩ (.int .i64 (-2))).setCell ⟨G, (l + 1) * 2 + 1, none⟩ (.int .i64 0) := ⟨_, rfl⟩
                        have hWs : W.heap.size = w5.heap.size := by rw [hW]; simp only [sz_set]
                        rw [← hW] at hP2 hOW
                        have SW : Since wd W := ⟨hs5.out.trans (hOW.below (fun g hg => by simp at hg; omega) (by omega))⟩
                        have hzW := SW.out.size
                        have QO := Lib.hid ((SW.out.block _ (by omega)).trans HD.out.2.1)
                        have QR := Lib.hid ((SW.out.block _ (by omega)).trans HD.out.2.2)
                        have kW : W.cell? ⟨w.heap.size + 1, 2, none⟩ = some (.slice A3 (f + r) c3) := cell_of_row W _ 2 _ _ (0, 0) QO.out
                        have HX : Hid (Acc (W.alloc (.cells #[.slice (some ⟨G, 0, none⟩) (l + 2) (l + 2)] 92)) (w.heap.size + 2) 92 A3 (f + r) c3 (modRows l ms k ++ modBlk l ms k r) bs3) := Lib.hid (HD.out.1.below (C := wd.heap.size) (by repeat (first | exact Below.refl _ _ | exact Since.out (by assumption) | refine Below.alloc ?_ (by first | omega | (simp only [sz_alloc, sz_set, sz_drew, sz_drewN]; omega) | (simp only [sz_alloc, sz_set, sz_drew, sz_drewN] at *; omega)) _ | refine Below.setCell ?_ (by first | omega | (simp only [sz_alloc, sz_set, sz_drew, sz_drewN]; omega) | (simp only [sz_alloc, sz_set, sz_drew, sz_drewN] at *; omega)) _ | refine Below.drew ?_ | refine below_drewN_ ?_ _)) (Nat.le_refl _))
                        have hy : Hid (Cod.own (W.alloc (.cells #[.slice (some ⟨G, 0, none⟩) (l + 2) (l + 2)] 92)) (modRow l f m r true (decide (k + 1 = ms.length))) [.slice (some ⟨G, 0, none⟩) (l + 2) (l + 2)] [G]) := Lib.hid ⟨_, l + 2, by rw [modRow_len], by rw [modRow_len]; omega, hP2.out.own.keep (fun g hg => by simp at hg; subst hg; exact Below.heap_alloc W _ g hP2.out.lt)⟩
                        have hGW : G < W.heap.size := hP2.out.lt
                        go_wp2_with (first
                          | (rw [← hW])
                          | (at_builtin
                             refine wpList_push (α := List (Int × Int)) _ rfl (.tmp 106) (.tmp 108) 32 rfl (w.heap.size + 2) 92 (.slice none 0 0) 24 Try.underlying32 infoMoveSS rfl A3 (f + r) c3 _ bs3 rfl HX.out w5.heap.size 1 rfl (modRow l f m r true (decide (k + 1 = ms.length))) [.slice (some ⟨G, 0, none⟩) (l + 2) (l + 2)] [G] hy.out (new_cells hWs.symm) (fun u hu => by (simp at hu; subst hu; rfl)) ⟨by simp, fun g hg => by (simp at hg; subst hg; exact ⟨by omega, (by first | omega | (simp only [sz_alloc, sz_set, sz_drew, sz_drewN]; omega) | (simp only [sz_alloc, sz_set, sz_drew, sz_drewN] at *; omega))⟩)⟩ (fun g hg => by (simp at hg; subst hg; exact ⟨fun hm => by (have := (HD.out.1.fresh.2 _ hm).2; omega), fun a ha e0 => by (have := (HD.out.1.lt a ha).2; omega)⟩)) (by omega) (by omega) (by first | omega | (simp only [sz_alloc, sz_set, sz_drew, sz_drewN]; omega) | (simp only [sz_alloc, sz_set, sz_drew, sz_drewN] at *; omega)) ?_
                             intro D3 d3 w9 hacc hgr hnew
                             have hB1 := Lib.hid (HX.out.box hgr (alloc_block QO.out (by first | omega | (simp only [sz_alloc, sz_set, sz_drew, sz_drewN]; omega) | (simp only [sz_alloc, sz_set, sz_drew, sz_drewN] at *; omega))) (by omega))
                             have hB2 := Lib.hid (HX.out.box hgr (alloc_block QR.out (by first | omega | (simp only [sz_alloc, sz_set, sz_drew, sz_drewN]; omega) | (simp only [sz_alloc, sz_set, sz_drew, sz_drewN] at *; omega))) (by omega))
                             have f3 : w9.frozen? ⟨w.heap.size + 1, 2, none⟩ = false := blk_free hB1.out
                             have k9 : w9.cell? ⟨w.heap.size + 1, 2, none⟩ = some (.slice A3 (f + r) c3) := cell_of_row w9 _ 2 _ _ (0, 0) hB1.out
                             have HS9 : Since w w9 := ⟨Acc.since HX.out hgr (below_cat hsd.out (below_cat SW.out (by repeat (first | exact Below.refl _ _ | refine Below.alloc ?_ (by first | omega | (simp only [sz_alloc, sz_set, sz_drew, sz_drewN]; omega) | (simp only [sz_alloc, sz_set, sz_drew, sz_drewN] at *; omega)) _ | refine Below.setCell ?_ (by first | omega | (simp only [sz_alloc, sz_set, sz_drew, sz_drewN]; omega) | (simp only [sz_alloc, sz_set, sz_drew, sz_drewN] at *; omega)) _ | refine Below.drew ?_ | refine below_drewN_ ?_ _)) SW.out.size) hsd.out.size) (by omega) (by first | omega | (simp only [sz_alloc, sz_set, sz_drew, sz_drewN]; omega) | (simp only [sz_alloc, sz_set, sz_drew, sz_drewN] at *; omega))⟩
                             have HA := Lib.hid hacc
                             clear hacc hgr hnew))
                        go_roundw
                        case rel =>
                          refine ⟨r + 1, D3, d3, bs3 ++ [G], by omega, by go_num, Lib.hid ⟨?_, blk_set (i := 2) hB1.out _, blk_far hB2.out (by simp) _⟩, ⟨HS9.out.setCell (by simp) _⟩⟩
                          rw [modBlk_snoc, ← List.append_assoc, HFM.out.1, HFM.out.2, HRB.out]
                          exact HA.out.setCell (fun a ha e => by have := (HA.out.lt a ha).1; simp only at e; omega) (fun hm => by have := (HA.out.fresh.2 _ hm).1; simp only at this; omega) _
                        case measure => simp [intOf]; omega

                    · obtain rfl : m = r := by omega
                      have HBN : Hid (modRows l ms (k + 1) = modRows l ms k ++ modBlk l ms k m) := Lib.hid (by rw [← HFM.out.2]; rfl)
                      have HFN : Hid (f + m = fromAt ms (k + 1)) := Lib.hid (by rw [← HFM.out.1, ← HFM.out.2]; rfl)
                      go_wp2
                      go_roundw
                      case rel => exact ⟨k + 1, f + m, A3, c3, bs3, by omega, by go_num, by go_num, HFN, Lib.hid ⟨by rw [HBN.out]; exact HD.out.1, HD.out.2⟩, hsd⟩
                      case measure => simp [intOf]; omega

                | false =>
                  have HRB : Hid (evB k = false) := Lib.hid hb
                  have hk2 : (k : Int) % 2 = 1 := by unfold evB at hb; simp at hb; omega
                  clear hb
                  go_wp2
                  clear hk2
                  go_loopw [56] (fun rv wr => ∃ (r : Nat) (A3 : Option Addr) (c3 : Nat) (bs : List Nat), r ≤ m ∧ rv = .int .i64 r ∧ Hid (Acc wr (w.heap.size + 2) 92 A3 (f + r) c3 (modRows l ms k ++ modBlk l ms k r) bs ∧ wr.heap[w.heap.size + 1]? = some (.cells #[.int .i64 l, .int .i64 0, .slice A3 (f + r) c3] 34 (0, 0)) ∧ wr.heap[w.heap.size]? = some (.cells #[.int .i64 0, .int .i64 0, .slice none 0 0] 34 (0, 0))) ∧ Since w wr) (fun i _ => m - (intOf i).toNat)
                  case atStart => exact ⟨0, A3, c3, bs, Nat.zero_le _, rfl, Lib.hid ⟨by simpa [modBlk] using HD.out.1, HD.out.2.1, HD.out.2.2⟩, hsc⟩
                  case round =>
                    obtain ⟨r, A3, c3, bs3, hr, rfl, HD, hsd⟩ := hrel
                    obtain ⟨wd, rfl⟩ : ∃ x, x = wr := ⟨_, rfl⟩
                    have hzd := hsd.out.size
                    have hzd2 : w.heap.size + 2 ≤ wd.heap.size := by have := (Array.getElem?_eq_some_iff.1 HD.out.2.1).1; omega
                    by_cases hrm : r < m
                    · have s1 : (0 : Int) ≤ (r : Int) := by omega
                      have s2 : (r : Int) < (m : Int) := by omega
                      have HWS : Hid (wrap64 ((f : Int) + ((r : Int) + 1) % (m : Int)) = ((f + (r + 1) % m : Nat) : Int)) := Lib.hid (by
                        have h1 : ((r : Int) + 1) % (m : Int) = (((r + 1) % m : Nat) : Int) := rfl
                        have h2 : (r + 1) % m < m := Nat.mod_lt _ (by omega)
                        rw [h1]; unfold wrap64; omega)
                      go_wp2_with fail
                      have CR := repMoves wd.heap.size 0 (modStep f m r false) (l + 2) (wd.alloc (.cells #[.int .i64 (wrap64 ((f : Int) + ((r : Int) + 1) % (m : Int))), .int .i64 (-1)] 94)) (by rw [new_cells (l := [.int .i64 (wrap64 ((f : Int) + ((r : Int) + 1) % (m : Int))), .int .i64 (-1)]) rfl 0 _ rfl, HWS.out]; rfl) (new_cells (l := [.int .i64 (wrap64 ((f : Int) + ((r : Int) + 1) % (m : Int))), .int .i64 (-1)]) rfl 1 _ rfl) (by simp) (by omega)
                      refine CR.mono ?_
                      rintro e w5 ⟨G, rfl, hP, hG, hb5⟩
                      have HP := Lib.hid hP
                      have hs5 : Since wd w5 := ⟨below_cat (by repeat (first | exact Below.refl _ _ | refine Below.alloc ?_ (by first | omega | (simp only [sz_alloc, sz_set, sz_drew, sz_drewN]; omega) | (simp only [sz_alloc, sz_set, sz_drew, sz_drewN] at *; omega)) _ | refine Below.setCell ?_ (by first | omega | (simp only [sz_alloc, sz_set, sz_drew, sz_drewN]; omega) | (simp only [sz_alloc, sz_set, sz_drew, sz_drewN] at *; omega)) _ | refine Below.drew ?_ | refine below_drewN_ ?_ _)) hb5 (by first | omega | (simp only [sz_alloc, sz_set, sz_drew, sz_drewN]; omega) | (simp only [sz_alloc, sz_set, sz_drew, sz_drewN] at *; omega))⟩
                      (try simp only [sz_alloc] at hG)
                      have hz5 := hs5.out.size
                      clear hP hb5 CR
                      by_cases hr0 : r = 0
                      · subst hr0
                        have q0 : ((0 : Int) != 0) = false := rfl
                        by_cases hlast : k + 1 = ms.length
                        · have HLB : Hid (decide (k + 1 = ms.length) = true) := Lib.hid (decide_eq_true hlast)
                          have q1 : ((k : Int) == (ms.length : Int) - 1) = true := by simp; omega
                          clear hlast
                          have HE : Hid (modEnd f m 0 false true = ((-1), 0)) := Lib.hid (by unfold modEnd; simp [dirB])
                          have HON : Hid (modOn f 0 false = ((f : Int), (-1))) := Lib.hid (by unfold modOn; simp [dirB])
                          have HROW : Hid (((List.replicate (l + 2) (modStep f m 0 false)).set (l + 1) ((f : Int), (-1))).set l ((-1), 0) = modRow l f m 0 false true) := Lib.hid (by
                            have := modRow_set l f m 0 false true
                            rw [HE.out, HON.out] at this
                            exact this)
                          have hcA := HP.out.cell (k := (l + 1)) (x := modStep f m 0 false) (by first | (simp; done) | (simp; omega))
                          have hcE := HP.out.cell (k := l) (x := modStep f m 0 false) (by first | (simp; done) | (simp; omega))
                          have fA0 : w5.frozen? ⟨G, (l + 1) * 2, none⟩ = false := HP.out.free
                          have fA1 : w5.frozen? ⟨G, (l + 1) * 2 + 1, none⟩ = false := HP.out.free
                          have fE0 : w5.frozen? ⟨G, l * 2, none⟩ = false := HP.out.free
                          have fE1 : w5.frozen? ⟨G, l * 2 + 1, none⟩ = false := HP.out.free
                          have k5 : w5.cell? ⟨w.heap.size + 1, 2, none⟩ = some (.slice A3 (f + 0) c3) := cell_of_row w5 _ 2 _ _ (0, 0) ((hs5.out.block _ (by omega)).trans HD.out.2.1)
                          have hGne : G ≠ w.heap.size + 1 := by omega
                          obtain ⟨cA0, cA1⟩ := hcA
                          obtain ⟨cE0, cE1⟩ := hcE
                          have hP2 : Hid (Pairs ((((w5.setCell ⟨G, (l + 1) * 2, none⟩ (.int .i64 ((f : Int)))).setCell ⟨G, (l + 1) * 2 + 1, none⟩ (.int .i64 (-1))).setCell ⟨G, l * 2, none⟩ (.int .i64 (-1))).setCell ⟨G, l * 2 + 1, none⟩ (.int .i64 0)) G 94 (modRow l f m 0 false true)) := Lib.hid (by
                            rw [← HROW.out]
                            exact (HP.out.set (by first | (simp; done) | (simp; omega)) _ _).set (by first | (simp; done) | (simp; omega)) _ _)
                          have hOW : OnlyB [G] w5 ((((w5.setCell ⟨G, (l + 1) * 2, none⟩ (.int .i64 ((f : Int)))).setCell ⟨G, (l + 1) * 2 + 1, none⟩ (.int .i64 (-1))).setCell ⟨G, l * 2, none⟩ (.int .i64 (-1))).setCell ⟨G, l * 2 + 1, none⟩ (.int .i64 0)) := ((((OnlyB.refl [G] w5).setCell (by simp) _).setCell (by simp) _).setCell (by simp) _).setCell (by simp) _
                          have hGl := HP.out.lt
                          obtain ⟨W, hW⟩ : ∃ W, W = (((w5.setCell ⟨G, (l + 1) * 2, none⟩ (.int .i64 ((f : Int)))).setCell ⟨G, (l + 1) * 2 + 1, none⟩ (.int .i64 (-1))).setCell ⟨G, l * 2, none⟩ (.int .i64 (-1))).setCell ⟨G, l * 2 + 1, none⟩ (.int .i64 0) := ⟨_, rfl⟩
                          have hWs : W.heap.size = w5.heap.size := by rw [hW]; simp only [sz_set]
                          rw [← hW] at hP2 hOW
                          have SW : Since wd W := ⟨hs5.out.trans (hOW.below (fun g hg => by simp at hg; omega) (by omega))⟩
                          have hzW := SW.out.size
                          have QO := Lib.hid ((SW.out.block _ (by omega)).trans HD.out.2.1)
                          have QR := Lib.hid ((SW.out.block _ (by omega)).trans HD.out.2.2)
                          have kW : W.cell? ⟨w.heap.size + 1, 2, none⟩ = some (.slice A3 (f + 0) c3) := cell_of_row W _ 2 _ _ (0, 0) QO.out
                          have HX : Hid (Acc (W.alloc (.cells #[.slice (some ⟨G, 0, none⟩) (l + 2) (l + 2)] 92)) (w.heap.size + 2) 92 A3 (f + 0) c3 (modRows l ms k ++ modBlk l ms k 0) bs3) := Lib.hid (HD.out.1.below (C := wd.heap.size) (by repeat (first | exact Below.refl _ _ | exact Since.out (by assumption) | refine Below.alloc ?_ (by first | omega | (simp only [sz_alloc, sz_set, sz_drew, sz_drewN]; omega) | (simp only [sz_alloc, sz_set, sz_drew, sz_drewN] at *; omega)) _ | refine Below.setCell ?_ (by first | omega | (simp only [sz_alloc, sz_set, sz_drew, sz_drewN]; omega) | (simp only [sz_alloc, sz_set, sz_drew, sz_drewN] at *; omega)) _ | refine Below.drew ?_ | refine below_drewN_ ?_ _)) (Nat.le_refl _))
                          have hy : Hid (Cod.own (W.alloc (.cells #[.slice (some ⟨G, 0, none⟩) (l + 2) (l + 2)] 92)) (modRow l f m 0 false true) [.slice (some ⟨G, 0, none⟩) (l + 2) (l + 2)] [G]) := Lib.hid ⟨_, l + 2, by rw [modRow_len], by rw [modRow_len]; omega, hP2.out.own.keep (fun g hg => by simp at hg; subst hg; exact Below.heap_alloc W _ g hP2.out.lt)⟩
                          have hGW : G < W.heap.size := hP2.out.lt
                          go_wp2_with (first
                            | (rw [← hW])
                            | (at_builtin
                               refine wpList_push (α := List (Int × Int)) _ rfl (.tmp 106) (.tmp 108) 32 rfl (w.heap.size + 2) 92 (.slice none 0 0) 24 Try.underlying32 infoMoveSS rfl A3 (f + 0) c3 _ bs3 rfl HX.out w5.heap.size 1 rfl (modRow l f m 0 false true) [.slice (some ⟨G, 0, none⟩) (l + 2) (l + 2)] [G] hy.out (new_cells hWs.symm) (fun u hu => by (simp at hu; subst hu; rfl)) ⟨by simp, fun g hg => by (simp at hg; subst hg; exact ⟨by omega, (by first | omega | (simp only [sz_alloc, sz_set, sz_drew, sz_drewN]; omega) | (simp only [sz_alloc, sz_set, sz_drew, sz_drewN] at *; omega))⟩)⟩ (fun g hg => by (simp at hg; subst hg; exact ⟨fun hm => by (have := (HD.out.1.fresh.2 _ hm).2; omega), fun a ha e0 => by (have := (HD.out.1.lt a ha).2; omega)⟩)) (by omega) (by omega) (by first | omega | (simp only [sz_alloc, sz_set, sz_drew, sz_drewN]; omega) | (simp only [sz_alloc, sz_set, sz_drew, sz_drewN] at *; omega)) ?_
                               intro D3 d3 w9 hacc hgr hnew
                               have hB1 := Lib.hid (HX.out.box hgr (alloc_block QO.out (by first | omega | (simp only [sz_alloc, sz_set, sz_drew, sz_drewN]; omega) | (simp only [sz_alloc, sz_set, sz_drew, sz_drewN] at *; omega))) (by omega))
                               have hB2 := Lib.hid (HX.out.box hgr (alloc_block QR.out (by first | omega | (simp only [sz_alloc, sz_set, sz_drew, sz_drewN]; omega) | (simp only [sz_alloc, sz_set, sz_drew, sz_drewN] at *; omega))) (by omega))
                               have f3 : w9.frozen? ⟨w.heap.size + 1, 2, none⟩ = false := blk_free hB1.out
                               have k9 : w9.cell? ⟨w.heap.size + 1, 2, none⟩ = some (.slice A3 (f + 0) c3) := cell_of_row w9 _ 2 _ _ (0, 0) hB1.out
                               have HS9 : Since w w9 := ⟨Acc.since HX.out hgr (below_cat hsd.out (below_cat SW.out (by repeat (first | exact Below.refl _ _ | refine Below.alloc ?_ (by first | omega | (simp only [sz_alloc, sz_set, sz_drew, sz_drewN]; omega) | (simp only [sz_alloc, sz_set, sz_drew, sz_drewN] at *; omega)) _ | refine Below.setCell ?_ (by first | omega | (simp only [sz_alloc, sz_set, sz_drew, sz_drewN]; omega) | (simp only [sz_alloc, sz_set, sz_drew, sz_drewN] at *; omega)) _ | refine Below.drew ?_ | refine below_drewN_ ?_ _)) SW.out.size) hsd.out.size) (by omega) (by first | omega | (simp only [sz_alloc, sz_set, sz_drew, sz_drewN]; omega) | (simp only [sz_alloc, sz_set, sz_drew, sz_drewN] at *; omega))⟩
                               have HA := Lib.hid hacc
                               clear hacc hgr hnew))
                          go_roundw
                          case rel =>
                            refine ⟨0 + 1, D3, d3, bs3 ++ [G], by omega, by go_num, Lib.hid ⟨?_, blk_set (i := 2) hB1.out _, blk_far hB2.out (by simp) _⟩, ⟨HS9.out.setCell (by simp) _⟩⟩
                            rw [modBlk_snoc, ← List.append_assoc, HFM.out.1, HFM.out.2, HRB.out, HLB.out]
                            exact HA.out.setCell (fun a ha e => by have := (HA.out.lt a ha).1; simp only at e; omega) (fun hm => by have := (HA.out.fresh.2 _ hm).1; simp only at this; omega) _
                          case measure => simp [intOf]; omega

                        · have HLB : Hid (decide (k + 1 = ms.length) = false) := Lib.hid (decide_eq_false hlast)
                          have q1 : ((k : Int) == (ms.length : Int) - 1) = false := beq_false_of_ne (by omega)
                          clear hlast
                          have HE : Hid (modEnd f m 0 false false = (((f : Int) + (m : Int)), 1)) := Lib.hid (by unfold modEnd; simp [dirB])
                          have HON : Hid (modOn f 0 false = ((f : Int), (-1))) := Lib.hid (by unfold modOn; simp [dirB])
                          have HROW : Hid (((List.replicate (l + 2) (modStep f m 0 false)).set (l + 1) ((f : Int), (-1))).set l (((f : Int) + (m : Int)), 1) = modRow l f m 0 false false) := Lib.hid (by
                            have := modRow_set l f m 0 false false
                            rw [HE.out, HON.out] at this
                            exact this)
                          have hcA := HP.out.cell (k := (l + 1)) (x := modStep f m 0 false) (by first | (simp; done) | (simp; omega))
                          have hcE := HP.out.cell (k := l) (x := modStep f m 0 false) (by first | (simp; done) | (simp; omega))
                          have fA0 : w5.frozen? ⟨G, (l + 1) * 2, none⟩ = false := HP.out.free
                          have fA1 : w5.frozen? ⟨G, (l + 1) * 2 + 1, none⟩ = false := HP.out.free
                          have fE0 : w5.frozen? ⟨G, l * 2, none⟩ = false := HP.out.free
                          have fE1 : w5.frozen? ⟨G, l * 2 + 1, none⟩ = false := HP.out.free
                          have k5 : w5.cell? ⟨w.heap.size + 1, 2, none⟩ = some (.slice A3 (f + 0) c3) := cell_of_row w5 _ 2 _ _ (0, 0) ((hs5.out.block _ (by omega)).trans HD.out.2.1)
                          have hGne : G ≠ w.heap.size + 1 := by omega
                          obtain ⟨cA0, cA1⟩ := hcA
                          obtain ⟨cE0, cE1⟩ := hcE
                          have hP2 : Hid (Pairs ((((w5.setCell ⟨G, (l + 1) * 2, none⟩ (.int .i64 ((f : Int)))).setCell ⟨G, (l + 1) * 2 + 1, none⟩ (.int .i64 (-1))).setCell ⟨G, l * 2, none⟩ (.int .i64 ((f : Int) + (m : Int)))).setCell ⟨G, l * 2 + 1, none⟩ (.int .i64 1)) G 94 (modRow l f m 0 false false)) := Lib.hid (by
                            rw [← HROW.out]
                            exact (HP.out.set (by first | (simp; done) | (simp; omega)) _ _).set (by first | (simp; done) | (simp; omega)) _ _)
                          have hOW : OnlyB [G] w5 ((((w5.setCell ⟨G, (l + 1) * 2, none⟩ (.int .i64 ((f : Int)))).setCell ⟨G, (l + 1) * 2 + 1, none⟩ (.int .i64 (-1))).setCell ⟨G, l * 2, none⟩ (.int .i64 ((f : Int) + (m : Int)))).setCell ⟨G, l * 2 + 1, none⟩ (.int .i64 1)) := ((((OnlyB.refl [G] w5).setCell (by simp) _).setCell (by simp) _).setCell (by simp) _).setCell (by simp) _
                          have hGl := HP.out.lt
                          obtain ⟨W, hW⟩ : ∃ W, W = (((w5.setCell ⟨G, (l + 1) * 2, none⟩ (.int .i64 ((f : Int)))).setCell ⟨G, (l + 1) * 2 + 1, none⟩ (.int .i64 (-1))).setCell ⟨G, l * 2, none⟩ (.int .i64 ((f : Int) + (m : Int)))).setCell ⟨G, l * 2 + 1, none⟩ (.int .i64 1) := ⟨_, rfl⟩
                          have hWs : W.heap.size = w5.heap.size := by rw [hW]; simp only [sz_set]
                          rw [← hW] at hP2 hOW
                          have SW : Since wd W := ⟨hs5.out.trans (hOW.below (fun g hg => by simp at hg; omega) (by omega))⟩
                          have hzW := SW.out.size
                          have QO := Lib.hid ((SW.out.block _ (by omega)).trans HD.out.2.1)
                          have QR := Lib.hid ((SW.out.block _ (by omega)).trans HD.out.2.2)
                          have kW : W.cell? ⟨w.heap.size + 1, 2, none⟩ = some (.slice A3 (f + 0) c3) := cell_of_row W _ 2 _ _ (0, 0) QO.out
                          have HX : Hid (Acc (W.alloc (.cells #[.slice (some ⟨G, 0, none⟩) (l + 2) (l + 2)] 92)) (w.heap.size + 2) 92 A3 (f + 0) c3 (modRows l ms k ++ modBlk l ms k 0) bs3) := Lib.hid (HD.out.1.below (C := wd.heap.size) (by repeat (first | exact Below.refl _ _ | exact Since.out (by assumption) | refine Below.alloc ?_ (by first | omega | (simp only [sz_alloc, sz_set, sz_drew, sz_drewN]; omega) | (simp only [sz_alloc, sz_set, sz_drew, sz_drewN] at *; omega)) _ | refine Below.setCell ?_ (by first | omega | (simp only [sz_alloc, sz_set, sz_drew, sz_drewN]; omega) | (simp only [sz_alloc, sz_set, sz_drew, sz_drewN] at *; omega)) _ | refine Below.drew ?_ | refine below_drewN_ ?_ _)) (Nat.le_refl _))
                          have hy : Hid (Cod.own (W.alloc (.cells #[.slice (some ⟨G, 0, none⟩) (l + 2) (l + 2)] 92)) (modRow l f m 0 false false) [.slice (some ⟨G, 0, none⟩) (l + 2) (l + 2)] [G]) := Lib.hid ⟨_, l + 2, by rw [modRow_len], by rw [modRow_len]; omega, hP2.out.own.keep (fun g hg => by simp at hg; subst hg; exact Below.heap_alloc W _ g hP2.out.lt)⟩
                          have hGW : G < W.heap.size := hP2.out.lt
                          go_wp2_with (first
                            | (rw [← hW])
                            | (at_builtin
                               refine wpList_push (α := List (Int × Int)) _ rfl (.tmp 106) (.tmp 108) 32 rfl (w.heap.size + 2) 92 (.slice none 0 0) 24 Try.underlying32 infoMoveSS rfl A3 (f + 0) c3 _ bs3 rfl HX.out w5.heap.size 1 rfl (modRow l f m 0 false false) [.slice (some ⟨G, 0, none⟩) (l + 2) (l + 2)] [G] hy.out (new_cells hWs.symm) (fun u hu => by (simp at hu; subst hu; rfl)) ⟨by simp, fun g hg => by (simp at hg; subst hg; exact ⟨by omega, (by first | omega | (simp only [sz_alloc, sz_set, sz_drew, sz_drewN]; omega) | (simp only [sz_alloc, sz_set, sz_drew, sz_drewN] at *; omega))⟩)⟩ (fun g hg => by (simp at hg; subst hg; exact ⟨fun hm => by (have := (HD.out.1.fresh.2 _ hm).2; omega), fun a ha e0 => by (have := (HD.out.1.lt a ha).2; omega)⟩)) (by omega) (by omega) (by first | omega | (simp only [sz_alloc, sz_set, sz_drew, sz_drewN]; omega) | (simp only [sz_alloc, sz_set, sz_drew, sz_drewN] at *; omega)) ?_
                               intro D3 d3 w9 hacc hgr hnew
                               have hB1 := Lib.hid (HX.out.box hgr (alloc_block QO.out (by first | omega | (simp only [sz_alloc, sz_set, sz_drew, sz_drewN]; omega) | (simp only [sz_alloc, sz_set, sz_drew, sz_drewN] at *; omega))) (by omega))
                               have hB2 := Lib.hid (HX.out.box hgr (alloc_block QR.out (by first | omega | (simp only [sz_alloc, sz_set, sz_drew, sz_drewN]; omega) | (simp only [sz_alloc, sz_set, sz_drew, sz_drewN] at *; omega))) (by omega))
                               have f3 : w9.frozen? ⟨w.heap.size + 1, 2, none⟩ = false := blk_free hB1.out
                               have k9 : w9.cell? ⟨w.heap.size + 1, 2, none⟩ = some (.slice A3 (f + 0) c3) := cell_of_row w9 _ 2 _ _ (0, 0) hB1.out
                               have HS9 : Since w w9 := ⟨Acc.since HX.out hgr (below_cat hsd.out (below_cat SW.out (by repeat (first | exact Below.refl _ _ | refine Below.alloc ?_ (by first | omega | (simp only [sz_alloc, sz_set, sz_drew, sz_drewN]; omega) | (simp only [sz_alloc, sz_set, sz_drew, sz_drewN] at *; omega)) _ | refine Below.setCell ?_ (by first | omega | (simp only [sz_alloc, sz_set, sz_drew, sz_drewN]; omega) | (simp only [sz_alloc, sz_set, sz_drew, sz_drewN] at *; omega)) _ | refine Below.drew ?_ | refine below_drewN_ ?_ _)) SW.out.size) hsd.out.size) (by omega) (by first | omega | (simp only [sz_alloc, sz_set, sz_drew, sz_drewN]; omega) | (simp only [sz_alloc, sz_set, sz_drew, sz_drewN] at *; omega))⟩
                               have HA := Lib.hid hacc
                               clear hacc hgr hnew))
                          go_roundw
                          case rel =>
                            refine ⟨0 + 1, D3, d3, bs3 ++ [G], by omega, by go_num, Lib.hid ⟨?_, blk_set (i := 2) hB1.out _, blk_far hB2.out (by simp) _⟩, ⟨HS9.out.setCell (by simp) _⟩⟩
                            rw [modBlk_snoc, ← List.append_assoc, HFM.out.1, HFM.out.2, HRB.out, HLB.out]
                            exact HA.out.setCell (fun a ha e => by have := (HA.out.lt a ha).1; simp only at e; omega) (fun hm => by have := (HA.out.fresh.2 _ hm).1; simp only at this; omega) _
                          case measure => simp [intOf]; omega

                      · have HR0 := Lib.hid hr0
                        have q1 : ((r : Int) != 0) = true := by simp [hr0]
                        clear hr0
                        have HE : Hid (modEnd f m r false (decide (k + 1 = ms.length)) = ((-2), 0)) := Lib.hid (by unfold modEnd; simp [dirB, HR0.out])
                        have HON : Hid (modOn f r false = ((f : Int) + (r : Int), (-1))) := Lib.hid (by unfold modOn; simp [dirB])
                        have HROW : Hid (((List.replicate (l + 2) (modStep f m r false)).set (l + 1) ((f : Int) + (r : Int), (-1))).set l ((-2), 0) = modRow l f m r false (decide (k + 1 = ms.length))) := Lib.hid (by
                          have := modRow_set l f m r false (decide (k + 1 = ms.length))
                          rw [HE.out, HON.out] at this
                          exact this)
                        have hcA := HP.out.cell (k := (l + 1)) (x := modStep f m r false) (by first | (simp; done) | (simp; omega))
                        have hcE := HP.out.cell (k := l) (x := modStep f m r false) (by first | (simp; done) | (simp; omega))
                        have fA0 : w5.frozen? ⟨G, (l + 1) * 2, none⟩ = false := HP.out.free
                        have fA1 : w5.frozen? ⟨G, (l + 1) * 2 + 1, none⟩ = false := HP.out.free
                        have fE0 : w5.frozen? ⟨G, l * 2, none⟩ = false := HP.out.free
                        have fE1 : w5.frozen? ⟨G, l * 2 + 1, none⟩ = false := HP.out.free
                        have k5 : w5.cell? ⟨w.heap.size + 1, 2, none⟩ = some (.slice A3 (f + r) c3) := cell_of_row w5 _ 2 _ _ (0, 0) ((hs5.out.block _ (by omega)).trans HD.out.2.1)
                        have hGne : G ≠ w.heap.size + 1 := by omega
                        obtain ⟨cA0, cA1⟩ := hcA
                        obtain ⟨cE0, cE1⟩ := hcE
                        have hP2 : Hid (Pairs ((((w5.setCell ⟨G, (l + 1) * 2, none⟩ (.int .i64 ((f : Int) + (r : Int)))).setCell ⟨G, (l + 1) * 2 + 1, none⟩ (.int .i64 (-1))).setCell ⟨G, l * 2, none⟩ (.int .i64 (-2))).setCell ⟨G, l * 2 + 1, none⟩ (.int .i64 0)) G 94 (modRow l f m r false (decide (k + 1 = ms.length)))) := Lib.hid (by
                          rw [← HROW.out]
                          exact (HP.out.set (by first | (simp; done) | (simp; omega)) _ _).set (by first | (simp; done) | (simp; omega)) _ _)
                        have hOW : OnlyB [G] w5 ((((w5.setCell ⟨G, (l + 1) * 2, none⟩ (.int .i64 ((f : Int) + (r : Int)))).setCell ⟨G, (l + 1) * 2 + 1, none⟩ (.int .i64 (-1))).setCell ⟨G, l * 2, none⟩ (.int .i64 (-2))).setCell ⟨G, l * 2 + 1, none⟩ (.int .i64 0)) := ((((OnlyB.refl [G] w5).setCell (by simp) _).setCell (by simp) _).setCell (by simp) _).setCell (by simp) _
                        have hGl := HP.out.lt
                        obtain ⟨W, hW⟩ : ∃ W, W = (((w5.setCell ⟨G, (l + 1) * 2, none⟩ (.int .i64 ((f : Int) + (r : Int)))).setCell ⟨G, (l + 1) * 2 + 1, none⟩ (.int .i64 (-1))).setCell ⟨G, l * 2, none⟩ (.int .i64 (-2))).setCell ⟨G, l * 2 + 1, none⟩ (.int .i64 0) := ⟨_, rfl⟩
                        have hWs : W.heap.size = w5.heap.size := by rw [hW]; simp only [sz_set]
                        rw [← hW] at hP2 hOW
                        have SW : Since wd W := ⟨hs5.out.trans (hOW.below (fun g hg => by simp at hg; omega) (by omega))⟩
                        have hzW := SW.out.size
                        have QO := Lib.hid ((SW.out.block _ (by omega)).trans HD.out.2.1)
                        have QR := Lib.hid ((SW.out.block _ (by omega)).trans HD.out.2.2)
                        have kW : W.cell? ⟨w.heap.size + 1, 2, none⟩ = some (.slice A3 (f + r) c3) := cell_of_row W _ 2 _ _ (0, 0) QO.out
                        have HX : Hid (Acc (W.alloc (.cells #[.slice (some ⟨G, 0, none⟩) (l + 2) (l + 2)] 92)) (w.heap.size + 2) 92 A3 (f + r) c3 (modRows l ms k ++ modBlk l ms k r) bs3) := Lib.hid (HD.out.1.below (C := wd.heap.size) (by repeat (first | exact Below.refl _ _ | exact Since.out (by assumption) | refine Below.alloc ?_ (by first | omega | (simp only [sz_alloc, sz_set, sz_drew, sz_drewN]; omega) | (simp only [sz_alloc, sz_set, sz_drew, sz_drewN] at *; omega)) _ | refine Below.setCell ?_ (by first | omega | (simp only [sz_alloc, sz_set, sz_drew, sz_drewN]; omega) | (simp only [sz_alloc, sz_set, sz_drew, sz_drewN] at *; omega)) _ | refine Below.drew ?_ | refine below_drewN_ ?_ _)) (Nat.le_refl _))
                        have hy : Hid (Cod.own (W.alloc (.cells #[.slice (some ⟨G, 0, none⟩) (l + 2) (l + 2)] 92)) (modRow l f m r false (decide (k + 1 = ms.length))) [.slice (some ⟨G, 0, none⟩) (l + 2) (l + 2)] [G]) := Lib.hid ⟨_, l + 2, by rw [modRow_len], by rw [modRow_len]; omega, hP2.out.own.keep (fun g hg => by simp at hg; subst hg; exact Below.heap_alloc W _ g hP2.out.lt)⟩
                        have hGW : G < W.heap.size := hP2.out.lt
                        go_wp2_with (first
                          | (rw [← hW])
                          | (at_builtin
                             refine wpList_push (α := List (Int × Int)) _ rfl (.tmp 106) (.tmp 108) 32 rfl (w.heap.size + 2) 92 (.slice none 0 0) 24 Try.underlying32 infoMoveSS rfl A3 (f + r) c3 _ bs3 rfl HX.out w5.heap.size 1 rfl (modRow l f m r false (decide (k + 1 = ms.length))) [.slice (some ⟨G, 0, none⟩) (l + 2) (l + 2)] [G] hy.out (new_cells hWs.symm) (fun u hu => by (simp at hu; subst hu; rfl)) ⟨by simp, fun g hg => by (simp at hg; subst hg; exact ⟨by omega, (by first | omega | (simp only [sz_alloc, sz_set, sz_drew, sz_drewN]; omega) | (simp only [sz_alloc, sz_set, sz_drew, sz_drewN] at *; omega))⟩)⟩ (fun g hg => by (simp at hg; subst hg; exact ⟨fun hm => by (have := (HD.out.1.fresh.2 _ hm).2; omega), fun a ha e0 => by (have := (HD.out.1.lt a ha).2; omega)⟩)) (by omega) (by omega) (by first | omega | (simp only [sz_alloc, sz_set, sz_drew, sz_drewN]; omega) | (simp only [sz_alloc, sz_set, sz_drew, sz_drewN] at *; omega)) ?_
                             intro D3 d3 w9 hacc hgr hnew
                             have hB1 := Lib.hid (HX.out.box hgr (alloc_block QO.out (by first | omega | (simp only [sz_alloc, sz_set, sz_drew, sz_drewN]; omega) | (simp only [sz_alloc, sz_set, sz_drew, sz_drewN] at *; omega))) (by omega))
                             have hB2 := Lib.hid (HX.out.box hgr (alloc_block QR.out (by first | omega | (simp only [sz_alloc, sz_set, sz_drew, sz_drewN]; omega) | (simp only [sz_alloc, sz_set, sz_drew, sz_drewN] at *; omega))) (by omega))
                             have f3 : w9.frozen? ⟨w.heap.size + 1, 2, none⟩ = false := blk_free hB1.out
                             have k9 : w9.cell? ⟨w.heap.size + 1, 2, none⟩ = some (.slice A3 (f + r) c3) := cell_of_row w9 _ 2 _ _ (0, 0) hB1.out
                             have HS9 : Since w w9 := ⟨Acc.since HX.out hgr (below_cat hsd.out (below_cat SW.out (by repeat (first | exact Below.refl _ _ | refine Below.alloc ?_ (by first | omega | (simp only [sz_alloc, sz_set, sz_drew, sz_drewN]; omega) | (simp only [sz_alloc, sz_set, sz_drew, sz_drewN] at *; omega)) _ | refine Below.setCell ?_ (by first | omega | (simp only [sz_alloc, sz_set, sz_drew, sz_drewN]; omega) | (simp only [sz_alloc, sz_set, sz_drew, sz_drewN] at *; omega)) _ | refine Below.drew ?_ | refine below_drewN_ ?_ _)) SW.out.size) hsd.out.size) (by omega) (by first | omega | (simp only [sz_alloc, sz_set, sz_drew, sz_drewN]; omega) | (simp only [sz_alloc, sz_set, sz_drew, sz_drewN] at *; omega))⟩
                             have HA := Lib.hid hacc
                             clear hacc hgr hnew))
                        go_roundw
                        case rel =>
                          refine ⟨r + 1, D3, d3, bs3 ++ [G], by omega, by go_num, Lib.hid ⟨?_, blk_set (i := 2) hB1.out _, blk_far hB2.out (by simp) _⟩, ⟨HS9.out.setCell (by simp) _⟩⟩
                          rw [modBlk_snoc, ← List.append_assoc, HFM.out.1, HFM.out.2, HRB.out]
                          exact HA.out.setCell (fun a ha e => by have := (HA.out.lt a ha).1; simp only at e; omega) (fun hm => by have := (HA.out.fresh.2 _ hm).1; simp only at this; omega) _
                        case measure => simp [intOf]; omega

                    · obtain rfl : m = r := by omega
                      have HBN : Hid (modRows l ms (k + 1) = modRows l ms k ++ modBlk l ms k m) := Lib.hid (by rw [← HFM.out.2]; rfl)
                      have HFN : Hid (f + m = fromAt ms (k + 1)) := Lib.hid (by rw [← HFM.out.1, ← HFM.out.2]; rfl)
                      go_wp2
                      go_roundw
                      case rel => exact ⟨k + 1, f + m, A3, c3, bs3, by omega, by go_num, by go_num, HFN, Lib.hid ⟨by rw [HBN.out]; exact HD.out.1, HD.out.2⟩, hsd⟩
                      case measure => simp [intOf]; omega

              · obtain rfl : k = ms.length := by omega
                obtain rfl : f = (modT l ms).moves.length := by rw [hf.out]; exact (modRows_len l ms ms.length).symm
                have u0 : wc.cell? ⟨w.heap.size + 1, 0, none⟩ = some (.int .i64 l) := cell_of_row wc _ 0 _ _ (0, 0) HD.out.2.1
                have u1 : wc.cell? ⟨w.heap.size + 1, 1, none⟩ = some (.int .i64 0) := cell_of_row wc _ 1 _ _ (0, 0) HD.out.2.1
                have u2 : wc.cell? ⟨w.heap.size + 1, 2, none⟩ = some (.slice A3 (modT l ms).moves.length c3) := cell_of_row wc _ 2 _ _ (0, 0) HD.out.2.1
                have v0 : wc.cell? ⟨w.heap.size, 0, none⟩ = some (.int .i64 0) := cell_of_row wc _ 0 _ _ (0, 0) HD.out.2.2
                have v1 : wc.cell? ⟨w.heap.size, 1, none⟩ = some (.int .i64 0) := cell_of_row wc _ 1 _ _ (0, 0) HD.out.2.2
                have v2 : wc.cell? ⟨w.heap.size, 2, none⟩ = some (.slice none 0 0) := cell_of_row wc _ 2 _ _ (0, 0) HD.out.2.2
                have x0 : wc.frozen? ⟨w.heap.size, 0, none⟩ = false := blk_free HD.out.2.2
                have x1 : wc.frozen? ⟨w.heap.size, 1, none⟩ = false := blk_free HD.out.2.2
                have x2 : wc.frozen? ⟨w.heap.size, 2, none⟩ = false := blk_free HD.out.2.2
                have hzc : w.heap.size + 1 < wc.heap.size := (Array.getElem?_eq_some_iff.1 HD.out.2.1).1
                obtain ⟨bm, om, fm, _⟩ := HD.out.1.own
                have RM : RdS wc wc.heap.size A3 (modT l ms).moves := om.rd (fun g hg => (fm.2 g hg).2)
                have HT : Hid ((modT l ms).tot ≤ 1048576) := Lib.hid (modT_tot (by omega) HF144.out)
                have HM := Lib.hid (And.intro om fm)
                clear om fm hf
                by_cases hok : (modT l ms).okB = true
                · have hC : Hid (modC l ms = modT l ms ∧ modCode l ms = 0) := Lib.hid (by
                    have h12 : fromAt ms ms.length ≤ 12 := Nat.le_of_not_lt fun h => by rw [modT_long h] at hok; cases hok
                    unfold modC modCode orNil; rw [HIN.out, Int.toNat_natCast]; simp [h12, hok])
                  have HOK := Lib.hid hok
                  clear hok
                  go_wp2_with fail
                  refine (turnerOr_yes A3 c3 (modT l ms) _ (RM.up (by repeat (first | exact Below.refl _ _ | refine Below.alloc ?_ (by first | omega | (simp only [sz_alloc, sz_set, sz_drew, sz_drewN]; omega) | (simp only [sz_alloc, sz_set, sz_drew, sz_drewN] at *; omega)) _ | refine Below.setCell ?_ (by first | omega | (simp only [sz_alloc, sz_set, sz_drew, sz_drewN]; omega) | (simp only [sz_alloc, sz_set, sz_drew, sz_drewN] at *; omega)) _ | refine Below.drew ?_ | refine below_drewN_ ?_ _))) HT.out HOK.out).mono ?_
                  rintro e w3 ⟨rfl, hb3⟩
                  have HBw3 : Since w w3 := ⟨below_cat (by repeat (first | exact Below.refl _ _ | exact Since.out (by assumption) | refine Below.alloc ?_ (by first | omega | (simp only [sz_alloc, sz_set, sz_drew, sz_drewN]; omega) | (simp only [sz_alloc, sz_set, sz_drew, sz_drewN] at *; omega)) _ | refine Below.setCell ?_ (by first | omega | (simp only [sz_alloc, sz_set, sz_drew, sz_drewN]; omega) | (simp only [sz_alloc, sz_set, sz_drew, sz_drewN] at *; omega)) _ | refine Below.drew ?_ | refine below_drewN_ ?_ _)) hb3 (by first | omega | (simp only [sz_alloc, sz_set, sz_drew, sz_drewN]; omega) | (simp only [sz_alloc, sz_set, sz_drew, sz_drewN] at *; omega))⟩; have hzw3 := hb3.size; (try simp only [sz_alloc, sz_set, sz_drew, sz_drewN] at hzw3); have hcw3k0 := fun o => hb3.cell (p := ⟨w.heap.size, o, none⟩) (by first | omega | (simp only [sz_alloc, sz_set, sz_drew, sz_drewN]; omega) | (simp only [sz_alloc, sz_set, sz_drew, sz_drewN] at *; omega)); have hfw3k0 := fun o => hb3.frozen (p := ⟨w.heap.size, o, none⟩) (by first | omega | (simp only [sz_alloc, sz_set, sz_drew, sz_drewN]; omega) | (simp only [sz_alloc, sz_set, sz_drew, sz_drewN] at *; omega)); have hlw3k0 : w.heap.size < w3.heap.size := (by first | omega | (simp only [sz_alloc, sz_set, sz_drew, sz_drewN]; omega) | (simp only [sz_alloc, sz_set, sz_drew, sz_drewN] at *; omega))
                  go_wp2
                  refine bodyPost_ret (v := .tuple #[.agg #[.int .i64 l, .int .i64 0, .slice A3 (modT l ms).moves.length c3], .int .i64 0]) (by simp [results, Try.results31, go_sem, hcw3k0, v0, v1, v2, modT]) rfl
                    (by rw [hC.out.1, hC.out.2]; exact ⟨_, bm, rfl, ⟨A3, c3, bm, rfl, (HM.out.1.below hb3 (fun g hg => (HM.out.2.2 g hg).2)).only (bs' := [w.heap.size]) (by repeat (first | with_reducible exact OnlyB.refl _ _ | with_reducible refine OnlyB.setCell ?_ (by simp) _ | with_reducible refine OnlyB.alloc ?_ _ | with_reducible refine OnlyB.drew ?_ | refine OnlyB.trans ?_ (OnlyB.of_below (by assumption) _))) (fun g hg => by have := HM.out.2.2 g hg; simp; omega), rfl⟩, ⟨HM.out.2.1, fun g hg => by have := HM.out.2.2 g hg; simp only [sz_set]; omega⟩, (by repeat (first | exact Below.refl _ _ | exact Since.out (by assumption) | refine Below.alloc ?_ (by first | omega | (simp only [sz_alloc, sz_set, sz_drew, sz_drewN]; omega) | (simp only [sz_alloc, sz_set, sz_drew, sz_drewN] at *; omega)) _ | refine Below.setCell ?_ (by first | omega | (simp only [sz_alloc, sz_set, sz_drew, sz_drewN]; omega) | (simp only [sz_alloc, sz_set, sz_drew, sz_drewN] at *; omega)) _ | refine Below.drew ?_ | refine below_drewN_ ?_ _))⟩)
                · have hok := Bool.not_eq_true _ |>.mp hok
                  have hC : Hid (modC l ms = nilTn ∧ modCode l ms = 3) := Lib.hid (by
                    unfold modC modCode orNil; rw [HIN.out, Int.toNat_natCast]; by_cases h12 : fromAt ms ms.length ≤ 12 <;> simp [h12, hok])
                  have HOK := Lib.hid hok
                  clear hok
                  go_wp2_with fail
                  refine (turnerOr_no A3 c3 (modT l ms) _ (RM.up (by repeat (first | exact Below.refl _ _ | refine Below.alloc ?_ (by first | omega | (simp only [sz_alloc, sz_set, sz_drew, sz_drewN]; omega) | (simp only [sz_alloc, sz_set, sz_drew, sz_drewN] at *; omega)) _ | refine Below.setCell ?_ (by first | omega | (simp only [sz_alloc, sz_set, sz_drew, sz_drewN]; omega) | (simp only [sz_alloc, sz_set, sz_drew, sz_drewN] at *; omega)) _ | refine Below.drew ?_ | refine below_drewN_ ?_ _))) HT.out HOK.out).mono ?_
                  rintro e w3 ⟨rfl, hb3⟩
                  have HBw3 : Since w w3 := ⟨below_cat (by repeat (first | exact Below.refl _ _ | exact Since.out (by assumption) | refine Below.alloc ?_ (by first | omega | (simp only [sz_alloc, sz_set, sz_drew, sz_drewN]; omega) | (simp only [sz_alloc, sz_set, sz_drew, sz_drewN] at *; omega)) _ | refine Below.setCell ?_ (by first | omega | (simp only [sz_alloc, sz_set, sz_drew, sz_drewN]; omega) | (simp only [sz_alloc, sz_set, sz_drew, sz_drewN] at *; omega)) _ | refine Below.drew ?_ | refine below_drewN_ ?_ _)) hb3 (by first | omega | (simp only [sz_alloc, sz_set, sz_drew, sz_drewN]; omega) | (simp only [sz_alloc, sz_set, sz_drew, sz_drewN] at *; omega))⟩; have hzw3 := hb3.size; (try simp only [sz_alloc, sz_set, sz_drew, sz_drewN] at hzw3); have hcw3k0 := fun o => hb3.cell (p := ⟨w.heap.size, o, none⟩) (by first | omega | (simp only [sz_alloc, sz_set, sz_drew, sz_drewN]; omega) | (simp only [sz_alloc, sz_set, sz_drew, sz_drewN] at *; omega)); have hfw3k0 := fun o => hb3.frozen (p := ⟨w.heap.size, o, none⟩) (by first | omega | (simp only [sz_alloc, sz_set, sz_drew, sz_drewN]; omega) | (simp only [sz_alloc, sz_set, sz_drew, sz_drewN] at *; omega)); have hlw3k0 : w.heap.size < w3.heap.size := (by first | omega | (simp only [sz_alloc, sz_set, sz_drew, sz_drewN]; omega) | (simp only [sz_alloc, sz_set, sz_drew, sz_drewN] at *; omega))
                  go_wp2
                  exact bodyPost_ret (v := .tuple #[.agg #[.int .i64 0, .int .i64 0, .slice none 0 0], .int .i64 3]) (by simp [results, Try.results31, go_sem, hcw3k0, v0, v1, v2]) rfl
                    (by rw [hC.out.1, hC.out.2]; exact ⟨_, [], rfl, ⟨none, 0, [], rfl, .inl ⟨rfl, rfl⟩, rfl⟩, ⟨List.nodup_nil, fun g hg => by simp at hg⟩, (by repeat (first | exact Below.refl _ _ | exact Since.out (by assumption) | refine Below.alloc ?_ (by first | omega | (simp only [sz_alloc, sz_set, sz_drew, sz_drewN]; omega) | (simp only [sz_alloc, sz_set, sz_drew, sz_drewN] at *; omega)) _ | refine Below.setCell ?_ (by first | omega | (simp only [sz_alloc, sz_set, sz_drew, sz_drewN]; omega) | (simp only [sz_alloc, sz_set, sz_drew, sz_drewN] at *; omega)) _ | refine Below.drew ?_ | refine below_drewN_ ?_ _))⟩)

        · have hC : Hid (modC l ms = nilTn ∧ modCode l ms = 3) := Lib.hid (by
            have h := fromAt_ge HALL.out ms.length (Nat.le_refl _)
            have : ¬ fromAt ms ms.length ≤ 12 := by omega
            unfold modC modCode; rw [HIN.out]; simp [this])
          have h12' : ¬ (ms.length : Int) ≤ 12 := by omega
          have h12'' : (12 : Int) < (ms.length : Int) := by omega
          go_wp2
          exact bodyPost_ret (v := .tuple #[.agg #[.int .i64 0, .int .i64 0, .slice none 0 0], .int .i64 3]) (by simp [results, Try.results31, go_sem, ]) rfl
            (by rw [hC.out.1, hC.out.2]; exact ⟨_, [], rfl, ⟨none, 0, [], rfl, .inl ⟨rfl, rfl⟩, rfl⟩, ⟨List.nodup_nil, fun g hg => by simp at hg⟩, (by repeat (first | exact Below.refl _ _ | exact Since.out (by assumption) | refine Below.alloc ?_ (by first | omega | (simp only [sz_alloc, sz_set, sz_drew, sz_drewN]; omega) | (simp only [sz_alloc, sz_set, sz_drew, sz_drewN] at *; omega)) _ | refine Below.setCell ?_ (by first | omega | (simp only [sz_alloc, sz_set, sz_drew, sz_drewN]; omega) | (simp only [sz_alloc, sz_set, sz_drew, sz_drewN] at *; omega)) _ | refine Below.drew ?_ | refine below_drewN_ ?_ _))⟩)

  · have hL := Bool.not_eq_true _ |>.mp hL
    have hC : Hid (modC L ms = nilTn ∧ modCode L ms = 2) := Lib.hid (by
      have : modIn L ms = false := by unfold modIn; rw [hL]; simp
      unfold modC modCode; rw [this]; simp)
    rw [hC.out.1, hC.out.2]
    go_enter Try.func31, Try.ntmps31
    go_wp2_with (go_at_call 80; refine (isAlphabet_lit false _ _ hL).mono ?_; rintro e w1 ⟨rfl, rfl⟩)
    exact bodyPost_ret (v := .tuple #[.agg #[.int .i64 0, .int .i64 0, .slice none 0 0], .int .i64 2]) (by simp [results, Try.results31, go_sem, ]) rfl
      ⟨_, [], rfl, ⟨none, 0, [], rfl, .inl ⟨rfl, rfl⟩, rfl⟩, ⟨List.nodup_nil, fun g hg => by simp at hg⟩, (by repeat (first | exact Below.refl _ _ | exact Since.out (by assumption) | refine Below.alloc ?_ (by first | omega | (simp only [sz_alloc, sz_set, sz_drew, sz_drewN]; omega) | (simp only [sz_alloc, sz_set, sz_drew, sz_drewN] at *; omega)) _ | refine Below.setCell ?_ (by first | omega | (simp only [sz_alloc, sz_set, sz_drew, sz_drewN]; omega) | (simp only [sz_alloc, sz_set, sz_drew, sz_drewN] at *; omega)) _ | refine Below.drew ?_ | refine below_drewN_ ?_ _))⟩

end Go.Proofs.Ytepjgaakihhngaa
