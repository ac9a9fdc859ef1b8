/-
  The program's ReadReader. Conditions: those in each statement.
-/
import Derived.Test.YtelmooaenodfaaaDoorRdTot
import Derived.Test.YtelmooaenodfaaaDoorAccN
import Derived.Test.YtelmooaenodfaaaDoorTail2
import Derived.Test.YtelmooaenodfaaaDoorRrTxt2
import Derived.Deep.DeepCutAuto
import Derived.Deep.RegionHeld3
set_option linter.unusedVariables false
set_option linter.unusedSimpArgs false
set_option maxRecDepth 100000
set_option maxHeartbeats 1000000
namespace Go.Proofs.YtelmooaenodfaaaDoor
open Go.RowKit

theorem rr_err {w wo : World} {code : Int} (hb : Below w.heap.size w wo) : RetRrC ⟨0, 0, [], []⟩ code w (.returned (.tuple #[.agg #[.int .i64 0, .int .i64 0, .slice none 0 0, .slice none 0 0], .int .i64 code])) wo :=
  ⟨_, [], rfl, ⟨none, 0, none, 0, [], [], rfl, .inl ⟨rfl, rfl⟩, .inl ⟨rfl, rfl⟩, rfl⟩, ⟨List.nodup_nil, fun g hg => by simp at hg⟩, hb⟩
def rowNI (x : List UInt8) : List Int := (splitL 32 x).tail.map numI
structure EnvR (w : World) : Prop where
  env : Env w
  pow : Pow w
theorem EnvR.up {w w' : World} (h : EnvR w) (hb : Below w.heap.size w w') : EnvR w' := ⟨h.env.up hb, h.pow.up hb⟩

set_option maxHeartbeats 8000000 in
theorem readReader_impl (l : List UInt8) (w : World) (hE : EnvR w) (hl : l.length ≤ 1048576) : Calls Tryd.prog 17 #[.string (str l)] w (RetRrC (rdC l) (rdCode l) w) := by
  have hsz := str_size l
  have us : ¬ 9223372036854775807 < (str l).size := by rw [str_size]; omega
  have tl := str_list
  have HE0 := Lib.hid hE.env
  have HP0 := Lib.hid hE.pow
  clear hE
  by_cases h20 : 20000 < l.length
  · have hC : rdC l = ⟨0, 0, [], []⟩ := by unfold rdC; rw [if_pos h20]
    have hD : rdCode l = 2 := by unfold rdCode; rw [if_pos h20]
    rw [hC, hD]
    have i1 : (20000 : Int) < (l.length : Int) := by omega
    clear hC hD h20
    go_enter Tryd.func17, Tryd.ntmps17
    go_wp2
    exact bodyPost_ret (v := .tuple #[.agg #[.int .i64 0, .int .i64 0, .slice none 0 0, .slice none 0 0], .int .i64 2]) (by simp [results, Tryd.results17, go_sem]) rfl (rr_err (by repeat (first | exact Below.refl _ _ | refine Below.alloc ?_ (by first | omega | (simp only [sz_alloc, sz_set, sz_drew, sz_drewN]; omega) | (simp only [sz_alloc, sz_set, sz_drew, sz_drewN] at *; omega)) _ | refine Below.setCell ?_ (by first | omega | (simp only [sz_alloc, sz_set, sz_drew, sz_drewN]; omega) | (simp only [sz_alloc, sz_set, sz_drew, sz_drewN] at *; omega)) _ | refine Below.drew ?_ | refine below_drewN_ ?_ _)))
  · have HC : Hid (rdC l = (rdI l).getD ⟨0, 0, [], []⟩) := Lib.hid (by unfold rdC; rw [if_neg h20, rd_same])
    have HD : Hid (rdCode l = if (rdI l).isSome = true then 0 else 5) := Lib.hid (by unfold rdCode; rw [if_neg h20, rd_same])
    have i1 : ¬ (20000 : Int) < (l.length : Int) := by omega
    have hl2 : l.length ≤ 20000 := by omega
    obtain ⟨T, hT⟩ : ∃ T, T = rdI0 l := ⟨_, rfl⟩
    have HTI : Hid (rdI l = if T.okB = true ∧ T.text = l then some T else none) := Lib.hid (by rw [hT]; rfl)
    have htot : T.tot ≤ 1048576 := by rw [hT]; have := rdI0_tot l; omega
    have HH := Lib.hid (fun W hW => headOf_impl l W hW hl)
    have hp4 := pad4_len (hdOf (docI l))
    have ha := hd_in l 1
    have hb := hd_in l 3
    obtain ⟨a, hae⟩ : ∃ a, a = (hdOf (docI l)).getD 1 [] := ⟨_, rfl⟩
    obtain ⟨b, hbe⟩ : ∃ b, b = (hdOf (docI l)).getD 3 [] := ⟨_, rfl⟩
    have hga : (pad4 (hdOf (docI l)))[1]? = some a := by
      have := pad4_get (hdOf (docI l)) 1
      rw [List.getD_eq_getElem?_getD, List.getElem?_eq_getElem (by omega)] at this
      rw [List.getElem?_eq_getElem (by omega), hae, ← this]
      rfl
    have hgb : (pad4 (hdOf (docI l)))[3]? = some b := by
      have := pad4_get (hdOf (docI l)) 3
      rw [List.getD_eq_getElem?_getD, List.getElem?_eq_getElem (by omega)] at this
      rw [List.getElem?_eq_getElem (by omega), hbe, ← this]
      rfl
    rw [← hae] at ha
    rw [← hbe] at hb
    obtain ⟨hd, hhd⟩ : ∃ hd, hd = pad4 (hdOf (docI l)) := ⟨_, rfl⟩
    have hin : ∀ x ∈ (docI l).tail, x.length ≤ l.length := fun x hx => doc_in l x (List.mem_of_mem_tail hx)
    have hln := doc_len l
    obtain ⟨ls, hls⟩ : ∃ ls, ls = (docI l).tail := ⟨_, rfl⟩
    obtain ⟨V1, hV1⟩ : ∃ V, V = numI a := ⟨_, rfl⟩
    obtain ⟨V2, hV2⟩ : ∃ V, V = numI b := ⟨_, rfl⟩
    have hTe : T = ⟨V1, V2, ls.map rowYes, ls.map rowNI⟩ := by rw [hT, hV1, hV2, hae, hbe, hls]; rfl
    have HNa := Lib.hid (fun W hW => number_impl a W hW (by omega))
    have HNb := Lib.hid (fun W hW => number_impl b W hW (by omega))
    rw [← hV1] at HNa
    rw [← hV2] at HNb
    rw [← hhd] at HH hga hgb hp4
    rw [← hls] at HH hin hln
    have hga := bs_get hga
    have hgb := bs_get hgb
    have HIN := Lib.hid hin
    clear hT hae hbe hhd hls hV1 hV2 hin h20 ha hb
    obtain ⟨n, hn⟩ : ∃ n, n = ls.length := ⟨_, rfl⟩
    obtain ⟨p, hp⟩ : ∃ p, p = hd.length := ⟨_, rfl⟩
    have HH : Hid (∀ W, Env W → Calls Tryd.prog 56 #[.string (str l), .int .i64 4] W fun e w' => ∃ A c A' c', e = .returned (.tuple #[.slice A p c, .slice A' n c']) ∧ RdS w' w'.heap.size A (hd.map Bs.mk) ∧ RdS w' w'.heap.size A' (ls.map Bs.mk) ∧ Below W.heap.size W w') := Lib.hid (by rw [hn, hp]; exact HH.out)
    rw [← hp] at hp4
    rw [← hn] at hln
    have HN := Lib.hid hn
    clear hn hp
    go_enter Tryd.func17, Tryd.ntmps17
    go_wp2_with fail
    refine (HH.out _ (HE0.out.up (by repeat (first | exact Below.refl _ _ | refine Below.alloc ?_ (by first | omega | (simp only [sz_alloc, sz_set, sz_drew, sz_drewN]; omega) | (simp only [sz_alloc, sz_set, sz_drew, sz_drewN] at *; omega)) _ | refine Below.setCell ?_ (by first | omega | (simp only [sz_alloc, sz_set, sz_drew, sz_drewN]; omega) | (simp only [sz_alloc, sz_set, sz_drew, sz_drewN] at *; omega)) _ | refine Below.drew ?_ | refine below_drewN_ ?_ _)))).mono ?_
    rintro e w1 ⟨A0, c0, A1, c1, rfl, r0, r1, hb1⟩
    have HBw1 : Since w w1 := ⟨below_cat (by repeat (first | exact Below.refl _ _ | exact Since.out (by assumption) | refine Below.alloc ?_ (by first | omega | (simp only [sz_alloc, sz_set, sz_drew, sz_drewN]; omega) | (simp only [sz_alloc, sz_set, sz_drew, sz_drewN] at *; omega)) _ | refine Below.setCell ?_ (by first | omega | (simp only [sz_alloc, sz_set, sz_drew, sz_drewN]; omega) | (simp only [sz_alloc, sz_set, sz_drew, sz_drewN] at *; omega)) _ | refine Below.drew ?_ | refine below_drewN_ ?_ _)) hb1 (by first | omega | (simp only [sz_alloc, sz_set, sz_drew, sz_drewN]; omega) | (simp only [sz_alloc, sz_set, sz_drew, sz_drewN] at *; omega))⟩; have hzw1 := hb1.size; (try simp only [sz_alloc, sz_set, sz_drew, sz_drewN] at hzw1); have hcw1k0 := fun o => hb1.cell (p := ⟨w.heap.size, o, none⟩) (by first | omega | (simp only [sz_alloc, sz_set, sz_drew, sz_drewN]; omega) | (simp only [sz_alloc, sz_set, sz_drew, sz_drewN] at *; omega)); have hfw1k0 := fun o => hb1.frozen (p := ⟨w.heap.size, o, none⟩) (by first | omega | (simp only [sz_alloc, sz_set, sz_drew, sz_drewN]; omega) | (simp only [sz_alloc, sz_set, sz_drew, sz_drewN] at *; omega)); have hlw1k0 : w.heap.size < w1.heap.size := (by first | omega | (simp only [sz_alloc, sz_set, sz_drew, sz_drewN]; omega) | (simp only [sz_alloc, sz_set, sz_drew, sz_drewN] at *; omega))
    have HQ1 : Since w1 w1 := ⟨Below.refl _ _⟩
    obtain ⟨gA, oA, rfl, hgA, ca⟩ := r0.bs hga
    obtain ⟨g', o', e', _, cb⟩ := r0.bs hgb
    cases e'
    have ip1 : (1 : Int) < (p : Int) := by omega
    have ip3 : (3 : Int) < (p : Int) := by omega
    clear r0 hga hgb
    go_wp2
    go_cut [6] (fun s6 wx => ∃ g : Nat, s6 = .pointer (some ⟨g, 0, none⟩) ∧ Hid (wx.heap[g]? = some (.cells #[.int .i64 V1, .int .i64 V2, .slice none 0 0, .slice none 0 0] 33 (0, 0))) ∧ w1.heap.size ≤ g ∧ Since w1 wx)
    case first =>
      refine Held.begin (fun w' => w'.cell? ⟨gA, oA + 1, none⟩ = some (.string (str a)) ∧ w'.cell? ⟨gA, oA + 3, none⟩ = some (.string (str b))) 10 (by kernel_rfl) (by (try dsimp only); (first | (go_keep; done) | (and_intros <;> go_simp))) (fun hHeld => ?_)
      refine Held.take (i := 0) (v := ?_) (by (simp only [List.getElem?_toArray, List.getElem?_cons_succ, List.getElem?_cons_zero]); exact rfl) (by decide) (by kernel_rfl) (by kernel_rfl) (by kernel_rfl) (by kernel_rfl) (by exact fun _ _ _ h => h) (by refine Or.inl ⟨by rfl, ?_⟩; intro wS hSw; (try dsimp only at hSw); go_simp; (try with_reducible rfl)) (by assumption) ?_
      (try simp only [Act.put, List.setIfInBounds_toArray, List.set_cons_zero, List.set_cons_succ])
      refine Held.take (i := 1) (v := ?_) (by (simp only [List.getElem?_toArray, List.getElem?_cons_succ, List.getElem?_cons_zero]); exact rfl) (by decide) (by kernel_rfl) (by kernel_rfl) (by kernel_rfl) (by kernel_rfl) (by exact fun _ _ _ h => h) (by refine Or.inl ⟨by rfl, ?_⟩; intro wS hSw; (try dsimp only at hSw); go_simp; (try with_reducible rfl)) (by assumption) ?_
      (try simp only [Act.put, List.setIfInBounds_toArray, List.set_cons_zero, List.set_cons_succ])
      refine Held.take (i := 2) (v := ?_) (by (simp only [List.getElem?_toArray, List.getElem?_cons_succ, List.getElem?_cons_zero]); exact rfl) (by decide) (by kernel_rfl) (by kernel_rfl) (by kernel_rfl) (by kernel_rfl) (by exact fun _ _ _ h => h) (by refine Or.inl ⟨by rfl, ?_⟩; intro wS hSw; (try dsimp only at hSw); go_simp; (try with_reducible rfl)) (by assumption) ?_
      (try simp only [Act.put, List.setIfInBounds_toArray, List.set_cons_zero, List.set_cons_succ])
      refine Held.take (i := 4) (v := ?_) (by (simp only [List.getElem?_toArray, List.getElem?_cons_succ, List.getElem?_cons_zero]); exact rfl) (by decide) (by kernel_rfl) (by kernel_rfl) (by kernel_rfl) (by kernel_rfl) (by exact fun _ _ _ h => h) (by refine Or.inl ⟨by rfl, ?_⟩; intro wS hSw; (try dsimp only at hSw); go_simp; (try with_reducible rfl)) (by assumption) ?_
      (try simp only [Act.put, List.setIfInBounds_toArray, List.set_cons_zero, List.set_cons_succ])
      refine Held.take (i := 5) (v := ?_) (by (simp only [List.getElem?_toArray, List.getElem?_cons_succ, List.getElem?_cons_zero]); exact rfl) (by decide) (by kernel_rfl) (by kernel_rfl) (by kernel_rfl) (by kernel_rfl) (by exact fun _ _ _ h => h) (by refine Or.inl ⟨by rfl, ?_⟩; intro wS hSw; (try dsimp only at hSw); go_simp; (try with_reducible rfl)) (by assumption) ?_
      (try simp only [Act.put, List.setIfInBounds_toArray, List.set_cons_zero, List.set_cons_succ])
      refine Held.take (i := 6) (v := ?_) (by (simp only [List.getElem?_toArray, List.getElem?_cons_succ, List.getElem?_cons_zero]); exact rfl) (by decide) (by kernel_rfl) (by kernel_rfl) (by kernel_rfl) (by kernel_rfl) (by exact fun _ _ _ h => h) (by refine Or.inl ⟨by rfl, ?_⟩; intro wS hSw; (try dsimp only at hSw); go_simp; (try with_reducible rfl)) (by assumption) ?_
      (try simp only [Act.put, List.setIfInBounds_toArray, List.set_cons_zero, List.set_cons_succ])
      refine Held.two (i := 3) (j := 9) (by (simp only [List.getElem?_toArray, List.getElem?_cons_succ, List.getElem?_cons_zero]); exact rfl) (by (simp only [List.getElem?_toArray, List.getElem?_cons_succ, List.getElem?_cons_zero]); exact rfl) (by kernel_rfl) (fun K hK => ?_) (fun K hK => ?_)
      · go_simp
        refine (HNa.out _ (HE0.out.up (by repeat (first | exact Below.refl _ _ | exact Since.out (by assumption) | refine Below.alloc ?_ (by first | omega | (simp only [sz_alloc, sz_set, sz_drew, sz_drewN]; omega) | (simp only [sz_alloc, sz_set, sz_drew, sz_drewN] at *; omega)) _ | refine Below.setCell ?_ (by first | omega | (simp only [sz_alloc, sz_set, sz_drew, sz_drewN]; omega) | (simp only [sz_alloc, sz_set, sz_drew, sz_drewN] at *; omega)) _ | refine Below.drew ?_ | refine below_drewN_ ?_ _)))).mono ?_
        rintro e w2 ⟨rfl, hb2⟩
        have HQ2 : Since w1 w2 := ⟨below_cat (by repeat (first | exact Below.refl _ _ | exact Since.out (by assumption) | refine Below.alloc ?_ (by first | omega | (simp only [sz_alloc, sz_set, sz_drew, sz_drewN]; omega) | (simp only [sz_alloc, sz_set, sz_drew, sz_drewN] at *; omega)) _ | refine Below.setCell ?_ (by first | omega | (simp only [sz_alloc, sz_set, sz_drew, sz_drewN]; omega) | (simp only [sz_alloc, sz_set, sz_drew, sz_drewN] at *; omega)) _ | refine Below.drew ?_ | refine below_drewN_ ?_ _)) hb2 (by first | omega | (simp only [sz_alloc, sz_set, sz_drew, sz_drewN]; omega) | (simp only [sz_alloc, sz_set, sz_drew, sz_drewN] at *; omega))⟩
        have HBw2 : Since w w2 := ⟨below_cat (by repeat (first | exact Below.refl _ _ | exact Since.out (by assumption) | refine Below.alloc ?_ (by first | omega | (simp only [sz_alloc, sz_set, sz_drew, sz_drewN]; omega) | (simp only [sz_alloc, sz_set, sz_drew, sz_drewN] at *; omega)) _ | refine Below.setCell ?_ (by first | omega | (simp only [sz_alloc, sz_set, sz_drew, sz_drewN]; omega) | (simp only [sz_alloc, sz_set, sz_drew, sz_drewN] at *; omega)) _ | refine Below.drew ?_ | refine below_drewN_ ?_ _)) hb2 (by first | omega | (simp only [sz_alloc, sz_set, sz_drew, sz_drewN]; omega) | (simp only [sz_alloc, sz_set, sz_drew, sz_drewN] at *; omega))⟩; have hzw2 := hb2.size; (try simp only [sz_alloc, sz_set, sz_drew, sz_drewN] at hzw2); have hcw2k0 := fun o => hb2.cell (p := ⟨w.heap.size, o, none⟩) (by first | omega | (simp only [sz_alloc, sz_set, sz_drew, sz_drewN]; omega) | (simp only [sz_alloc, sz_set, sz_drew, sz_drewN] at *; omega)); have hfw2k0 := fun o => hb2.frozen (p := ⟨w.heap.size, o, none⟩) (by first | omega | (simp only [sz_alloc, sz_set, sz_drew, sz_drewN]; omega) | (simp only [sz_alloc, sz_set, sz_drew, sz_drewN] at *; omega)); have hlw2k0 : w.heap.size < w2.heap.size := (by first | omega | (simp only [sz_alloc, sz_set, sz_drew, sz_drewN]; omega) | (simp only [sz_alloc, sz_set, sz_drew, sz_drewN] at *; omega))
        have hcw2g := fun o => hb2.cell (p := ⟨gA, o, none⟩) (by first | omega | (simp only [sz_alloc, sz_set, sz_drew, sz_drewN]; omega) | (simp only [sz_alloc, sz_set, sz_drew, sz_drewN] at *; omega)); have hfw2g := fun o => hb2.frozen (p := ⟨gA, o, none⟩) (by first | omega | (simp only [sz_alloc, sz_set, sz_drew, sz_drewN]; omega) | (simp only [sz_alloc, sz_set, sz_drew, sz_drewN] at *; omega)); have hlw2g : gA < _ := Nat.lt_of_lt_of_le (m := _) (by first | omega | (simp only [sz_alloc, sz_set, sz_drew, sz_drewN]; omega) | (simp only [sz_alloc, sz_set, sz_drew, sz_drewN] at *; omega)) hb2.size
        go_wp2_with fail
        refine hK.out _ _ (by (try dsimp only); (first | (go_keep; done) | (and_intros <;> go_simp))) (fun hHeld => ?_)
        clear hK K
        (try simp only [Act.put, List.setIfInBounds_toArray, List.set_cons_zero, List.set_cons_succ])
        refine Held.two (i := 7) (j := 9) (by (simp only [List.getElem?_toArray, List.getElem?_cons_succ, List.getElem?_cons_zero]); exact rfl) (by (simp only [List.getElem?_toArray, List.getElem?_cons_succ, List.getElem?_cons_zero]); exact rfl) (by kernel_rfl) (fun K hK => ?_) (fun K hK => ?_)
        · go_simp
          refine (HNb.out _ (HE0.out.up (by repeat (first | exact Below.refl _ _ | exact Since.out (by assumption) | refine Below.alloc ?_ (by first | omega | (simp only [sz_alloc, sz_set, sz_drew, sz_drewN]; omega) | (simp only [sz_alloc, sz_set, sz_drew, sz_drewN] at *; omega)) _ | refine Below.setCell ?_ (by first | omega | (simp only [sz_alloc, sz_set, sz_drew, sz_drewN]; omega) | (simp only [sz_alloc, sz_set, sz_drew, sz_drewN] at *; omega)) _ | refine Below.drew ?_ | refine below_drewN_ ?_ _)))).mono ?_
          rintro e w3 ⟨rfl, hb3⟩
          have HQ3 : Since w1 w3 := ⟨below_cat (by repeat (first | exact Below.refl _ _ | exact Since.out (by assumption) | refine Below.alloc ?_ (by first | omega | (simp only [sz_alloc, sz_set, sz_drew, sz_drewN]; omega) | (simp only [sz_alloc, sz_set, sz_drew, sz_drewN] at *; omega)) _ | refine Below.setCell ?_ (by first | omega | (simp only [sz_alloc, sz_set, sz_drew, sz_drewN]; omega) | (simp only [sz_alloc, sz_set, sz_drew, sz_drewN] at *; omega)) _ | refine Below.drew ?_ | refine below_drewN_ ?_ _)) hb3 (by first | omega | (simp only [sz_alloc, sz_set, sz_drew, sz_drewN]; omega) | (simp only [sz_alloc, sz_set, sz_drew, sz_drewN] at *; omega))⟩
          have HBw3 : Since w w3 := ⟨below_cat (by repeat (first | exact Below.refl _ _ | exact Since.out (by assumption) | refine Below.alloc ?_ (by first | omega | (simp only [sz_alloc, sz_set, sz_drew, sz_drewN]; omega) | (simp only [sz_alloc, sz_set, sz_drew, sz_drewN] at *; omega)) _ | refine Below.setCell ?_ (by first | omega | (simp only [sz_alloc, sz_set, sz_drew, sz_drewN]; omega) | (simp only [sz_alloc, sz_set, sz_drew, sz_drewN] at *; omega)) _ | refine Below.drew ?_ | refine below_drewN_ ?_ _)) hb3 (by first | omega | (simp only [sz_alloc, sz_set, sz_drew, sz_drewN]; omega) | (simp only [sz_alloc, sz_set, sz_drew, sz_drewN] at *; omega))⟩; have hzw3 := hb3.size; (try simp only [sz_alloc, sz_set, sz_drew, sz_drewN] at hzw3); have hcw3k0 := fun o => hb3.cell (p := ⟨w.heap.size, o, none⟩) (by first | omega | (simp only [sz_alloc, sz_set, sz_drew, sz_drewN]; omega) | (simp only [sz_alloc, sz_set, sz_drew, sz_drewN] at *; omega)); have hfw3k0 := fun o => hb3.frozen (p := ⟨w.heap.size, o, none⟩) (by first | omega | (simp only [sz_alloc, sz_set, sz_drew, sz_drewN]; omega) | (simp only [sz_alloc, sz_set, sz_drew, sz_drewN] at *; omega)); have hlw3k0 : w.heap.size < w3.heap.size := (by first | omega | (simp only [sz_alloc, sz_set, sz_drew, sz_drewN]; omega) | (simp only [sz_alloc, sz_set, sz_drew, sz_drewN] at *; omega))
          have hcw3g := fun o => hb3.cell (p := ⟨gA, o, none⟩) (by first | omega | (simp only [sz_alloc, sz_set, sz_drew, sz_drewN]; omega) | (simp only [sz_alloc, sz_set, sz_drew, sz_drewN] at *; omega)); have hfw3g := fun o => hb3.frozen (p := ⟨gA, o, none⟩) (by first | omega | (simp only [sz_alloc, sz_set, sz_drew, sz_drewN]; omega) | (simp only [sz_alloc, sz_set, sz_drew, sz_drewN] at *; omega)); have hlw3g : gA < _ := Nat.lt_of_lt_of_le (m := _) (by first | omega | (simp only [sz_alloc, sz_set, sz_drew, sz_drewN]; omega) | (simp only [sz_alloc, sz_set, sz_drew, sz_drewN] at *; omega)) hb3.size
          go_wp2_with fail
          refine hK.out _ _ (by (try dsimp only); (first | (go_keep; done) | (and_intros <;> go_simp))) (fun hHeld => ?_)
          clear hK K
          (try simp only [Act.put, List.setIfInBounds_toArray, List.set_cons_zero, List.set_cons_succ])
          refine Held.take (i := 8) (v := ?_) (by (simp only [List.getElem?_toArray, List.getElem?_cons_succ, List.getElem?_cons_zero]); exact rfl) (by decide) (by kernel_rfl) (by kernel_rfl) (by kernel_rfl) (by kernel_rfl) (by exact fun _ _ _ h => h) (by refine Or.inl ⟨by rfl, ?_⟩; intro wS hSw; (try dsimp only at hSw); go_simp; (try with_reducible rfl)) (by assumption) ?_
          (try simp only [Act.put, List.setIfInBounds_toArray, List.set_cons_zero, List.set_cons_succ])
          refine Held.one (i := 9) (by (simp only [List.getElem?_toArray, List.getElem?_cons_succ, List.getElem?_cons_zero]); exact rfl) (by kernel_rfl) (fun K hK => ?_)
          go_simp
          refine hK.out _ _ (by (try dsimp only); (first | (go_keep; done) | (and_intros <;> go_simp))) (fun hHeld => ?_)
          clear hK K
          (try simp only [Act.put, List.setIfInBounds_toArray, List.set_cons_zero, List.set_cons_succ])
          refine Held.last (i := 10) (by (simp only [List.getElem?_toArray, List.getElem?_cons_succ, List.getElem?_cons_zero]); exact rfl) (by decide) (by kernel_rfl) (fun K hK => ?_)
          go_simp
          refine hK.out _ _ ?_
          clear hK K
          (try simp only [Act.put, List.setIfInBounds_toArray, List.set_cons_zero, List.set_cons_succ])
          refine Held.done (by kernel_rfl) ?_ _
          go_wp2_with fail
          go_meet
          exact ⟨_, rfl, Lib.hid (by repeat (first | (with_reducible exact new_block rfl) | ((with_reducible refine new_block ?_); (focus (simp only [sz_alloc, sz_set, sz_drew, sz_drewN]; done))) | ((with_reducible refine blk_fill4 (cur := #[.int .i64 0 , .int .i64 0 , .slice none 0 0 , .slice none 0 0]) ?_ ?_); rotate_left; (focus (rfl; done))) | ((with_reducible refine blk_far ?_ ?_ _); rotate_left; (focus ((try simp only [ne_eq]); omega; done))) | ((with_reducible refine alloc_block ?_ ?_); rotate_left; (focus (first | omega | (simp only [sz_alloc, sz_set, sz_drew, sz_drewN]; omega) | (simp only [sz_alloc, sz_set, sz_drew, sz_drewN] at *; omega); done))) | rw [heap_drew] | ((with_reducible refine (Below.block (by first | exact hb2 | exact hb3) _ ?_).trans ?_); (focus (first | omega | (simp only [sz_alloc, sz_set, sz_drew, sz_drewN]; omega) | (simp only [sz_alloc, sz_set, sz_drew, sz_drewN] at *; omega); done))))), (by first | omega | (simp only [sz_alloc, sz_set, sz_drew, sz_drewN]; omega) | (simp only [sz_alloc, sz_set, sz_drew, sz_drewN] at *; omega)), ⟨(by repeat (first | exact Below.refl _ _ | exact Since.out (by assumption) | refine Below.alloc ?_ (by first | omega | (simp only [sz_alloc, sz_set, sz_drew, sz_drewN]; omega) | (simp only [sz_alloc, sz_set, sz_drew, sz_drewN] at *; omega)) _ | refine Below.setCell ?_ (by first | omega | (simp only [sz_alloc, sz_set, sz_drew, sz_drewN]; omega) | (simp only [sz_alloc, sz_set, sz_drew, sz_drewN] at *; omega)) _ | refine Below.drew ?_ | refine below_drewN_ ?_ _))⟩⟩
        · go_simp
          refine hK.out _ _ (by (try dsimp only); (first | (go_keep; done) | (and_intros <;> go_simp))) (fun hHeld => ?_)
          clear hK K
          (try simp only [Act.put, List.setIfInBounds_toArray, List.set_cons_zero, List.set_cons_succ])
          refine Held.one (i := 7) (by (simp only [List.getElem?_toArray, List.getElem?_cons_succ, List.getElem?_cons_zero]); exact rfl) (by kernel_rfl) (fun K hK => ?_)
          go_simp
          refine (HNb.out _ (HE0.out.up (by repeat (first | exact Below.refl _ _ | exact Since.out (by assumption) | refine Below.alloc ?_ (by first | omega | (simp only [sz_alloc, sz_set, sz_drew, sz_drewN]; omega) | (simp only [sz_alloc, sz_set, sz_drew, sz_drewN] at *; omega)) _ | refine Below.setCell ?_ (by first | omega | (simp only [sz_alloc, sz_set, sz_drew, sz_drewN]; omega) | (simp only [sz_alloc, sz_set, sz_drew, sz_drewN] at *; omega)) _ | refine Below.drew ?_ | refine below_drewN_ ?_ _)))).mono ?_
          rintro e w3 ⟨rfl, hb3⟩
          have HQ3 : Since w1 w3 := ⟨below_cat (by repeat (first | exact Below.refl _ _ | exact Since.out (by assumption) | refine Below.alloc ?_ (by first | omega | (simp only [sz_alloc, sz_set, sz_drew, sz_drewN]; omega) | (simp only [sz_alloc, sz_set, sz_drew, sz_drewN] at *; omega)) _ | refine Below.setCell ?_ (by first | omega | (simp only [sz_alloc, sz_set, sz_drew, sz_drewN]; omega) | (simp only [sz_alloc, sz_set, sz_drew, sz_drewN] at *; omega)) _ | refine Below.drew ?_ | refine below_drewN_ ?_ _)) hb3 (by first | omega | (simp only [sz_alloc, sz_set, sz_drew, sz_drewN]; omega) | (simp only [sz_alloc, sz_set, sz_drew, sz_drewN] at *; omega))⟩
          have HBw3 : Since w w3 := ⟨below_cat (by repeat (first | exact Below.refl _ _ | exact Since.out (by assumption) | refine Below.alloc ?_ (by first | omega | (simp only [sz_alloc, sz_set, sz_drew, sz_drewN]; omega) | (simp only [sz_alloc, sz_set, sz_drew, sz_drewN] at *; omega)) _ | refine Below.setCell ?_ (by first | omega | (simp only [sz_alloc, sz_set, sz_drew, sz_drewN]; omega) | (simp only [sz_alloc, sz_set, sz_drew, sz_drewN] at *; omega)) _ | refine Below.drew ?_ | refine below_drewN_ ?_ _)) hb3 (by first | omega | (simp only [sz_alloc, sz_set, sz_drew, sz_drewN]; omega) | (simp only [sz_alloc, sz_set, sz_drew, sz_drewN] at *; omega))⟩; have hzw3 := hb3.size; (try simp only [sz_alloc, sz_set, sz_drew, sz_drewN] at hzw3); have hcw3k0 := fun o => hb3.cell (p := ⟨w.heap.size, o, none⟩) (by first | omega | (simp only [sz_alloc, sz_set, sz_drew, sz_drewN]; omega) | (simp only [sz_alloc, sz_set, sz_drew, sz_drewN] at *; omega)); have hfw3k0 := fun o => hb3.frozen (p := ⟨w.heap.size, o, none⟩) (by first | omega | (simp only [sz_alloc, sz_set, sz_drew, sz_drewN]; omega) | (simp only [sz_alloc, sz_set, sz_drew, sz_drewN] at *; omega)); have hlw3k0 : w.heap.size < w3.heap.size := (by first | omega | (simp only [sz_alloc, sz_set, sz_drew, sz_drewN]; omega) | (simp only [sz_alloc, sz_set, sz_drew, sz_drewN] at *; omega))
          have hcw3g := fun o => hb3.cell (p := ⟨gA, o, none⟩) (by first | omega | (simp only [sz_alloc, sz_set, sz_drew, sz_drewN]; omega) | (simp only [sz_alloc, sz_set, sz_drew, sz_drewN] at *; omega)); have hfw3g := fun o => hb3.frozen (p := ⟨gA, o, none⟩) (by first | omega | (simp only [sz_alloc, sz_set, sz_drew, sz_drewN]; omega) | (simp only [sz_alloc, sz_set, sz_drew, sz_drewN] at *; omega)); have hlw3g : gA < _ := Nat.lt_of_lt_of_le (m := _) (by first | omega | (simp only [sz_alloc, sz_set, sz_drew, sz_drewN]; omega) | (simp only [sz_alloc, sz_set, sz_drew, sz_drewN] at *; omega)) hb3.size
          have hcw3t := fun o => hb3.cell (p := ⟨w2.heap.size, o, none⟩) (by first | omega | (simp only [sz_alloc, sz_set, sz_drew, sz_drewN]; omega) | (simp only [sz_alloc, sz_set, sz_drew, sz_drewN] at *; omega)); have hfw3t := fun o => hb3.frozen (p := ⟨w2.heap.size, o, none⟩) (by first | omega | (simp only [sz_alloc, sz_set, sz_drew, sz_drewN]; omega) | (simp only [sz_alloc, sz_set, sz_drew, sz_drewN] at *; omega)); have hlw3t : w2.heap.size < _ := Nat.lt_of_lt_of_le (m := _) (by first | omega | (simp only [sz_alloc, sz_set, sz_drew, sz_drewN]; omega) | (simp only [sz_alloc, sz_set, sz_drew, sz_drewN] at *; omega)) hb3.size
          go_wp2_with fail
          refine hK.out _ _ (by (try dsimp only); (first | (go_keep; done) | (and_intros <;> go_simp))) (fun hHeld => ?_)
          clear hK K
          (try simp only [Act.put, List.setIfInBounds_toArray, List.set_cons_zero, List.set_cons_succ])
          refine Held.take (i := 8) (v := ?_) (by (simp only [List.getElem?_toArray, List.getElem?_cons_succ, List.getElem?_cons_zero]); exact rfl) (by decide) (by kernel_rfl) (by kernel_rfl) (by kernel_rfl) (by kernel_rfl) (by exact fun _ _ _ h => h) (by refine Or.inl ⟨by rfl, ?_⟩; intro wS hSw; (try dsimp only at hSw); go_simp; (try with_reducible rfl)) (by assumption) ?_
          (try simp only [Act.put, List.setIfInBounds_toArray, List.set_cons_zero, List.set_cons_succ])
          refine Held.last (i := 10) (by (simp only [List.getElem?_toArray, List.getElem?_cons_succ, List.getElem?_cons_zero]); exact rfl) (by decide) (by kernel_rfl) (fun K hK => ?_)
          go_simp
          refine hK.out _ _ ?_
          clear hK K
          (try simp only [Act.put, List.setIfInBounds_toArray, List.set_cons_zero, List.set_cons_succ])
          refine Held.done (by kernel_rfl) ?_ _
          go_wp2_with fail
          go_meet
          exact ⟨_, rfl, Lib.hid (by repeat (first | (with_reducible exact new_block rfl) | ((with_reducible refine new_block ?_); (focus (simp only [sz_alloc, sz_set, sz_drew, sz_drewN]; done))) | ((with_reducible refine blk_fill4 (cur := #[.int .i64 0 , .int .i64 0 , .slice none 0 0 , .slice none 0 0]) ?_ ?_); rotate_left; (focus (rfl; done))) | ((with_reducible refine blk_far ?_ ?_ _); rotate_left; (focus ((try simp only [ne_eq]); omega; done))) | ((with_reducible refine alloc_block ?_ ?_); rotate_left; (focus (first | omega | (simp only [sz_alloc, sz_set, sz_drew, sz_drewN]; omega) | (simp only [sz_alloc, sz_set, sz_drew, sz_drewN] at *; omega); done))) | rw [heap_drew] | ((with_reducible refine (Below.block (by first | exact hb2 | exact hb3) _ ?_).trans ?_); (focus (first | omega | (simp only [sz_alloc, sz_set, sz_drew, sz_drewN]; omega) | (simp only [sz_alloc, sz_set, sz_drew, sz_drewN] at *; omega); done))))), (by first | omega | (simp only [sz_alloc, sz_set, sz_drew, sz_drewN]; omega) | (simp only [sz_alloc, sz_set, sz_drew, sz_drewN] at *; omega)), ⟨(by repeat (first | exact Below.refl _ _ | exact Since.out (by assumption) | refine Below.alloc ?_ (by first | omega | (simp only [sz_alloc, sz_set, sz_drew, sz_drewN]; omega) | (simp only [sz_alloc, sz_set, sz_drew, sz_drewN] at *; omega)) _ | refine Below.setCell ?_ (by first | omega | (simp only [sz_alloc, sz_set, sz_drew, sz_drewN]; omega) | (simp only [sz_alloc, sz_set, sz_drew, sz_drewN] at *; omega)) _ | refine Below.drew ?_ | refine below_drewN_ ?_ _))⟩⟩
      · go_simp
        refine hK.out _ _ (by (try dsimp only); (first | (go_keep; done) | (and_intros <;> go_simp))) (fun hHeld => ?_)
        clear hK K
        (try simp only [Act.put, List.setIfInBounds_toArray, List.set_cons_zero, List.set_cons_succ])
        refine Held.one (i := 3) (by (simp only [List.getElem?_toArray, List.getElem?_cons_succ, List.getElem?_cons_zero]); exact rfl) (by kernel_rfl) (fun K hK => ?_)
        go_simp
        refine (HNa.out _ (HE0.out.up (by repeat (first | exact Below.refl _ _ | exact Since.out (by assumption) | refine Below.alloc ?_ (by first | omega | (simp only [sz_alloc, sz_set, sz_drew, sz_drewN]; omega) | (simp only [sz_alloc, sz_set, sz_drew, sz_drewN] at *; omega)) _ | refine Below.setCell ?_ (by first | omega | (simp only [sz_alloc, sz_set, sz_drew, sz_drewN]; omega) | (simp only [sz_alloc, sz_set, sz_drew, sz_drewN] at *; omega)) _ | refine Below.drew ?_ | refine below_drewN_ ?_ _)))).mono ?_
        rintro e w2 ⟨rfl, hb2⟩
        have HQ2 : Since w1 w2 := ⟨below_cat (by repeat (first | exact Below.refl _ _ | exact Since.out (by assumption) | refine Below.alloc ?_ (by first | omega | (simp only [sz_alloc, sz_set, sz_drew, sz_drewN]; omega) | (simp only [sz_alloc, sz_set, sz_drew, sz_drewN] at *; omega)) _ | refine Below.setCell ?_ (by first | omega | (simp only [sz_alloc, sz_set, sz_drew, sz_drewN]; omega) | (simp only [sz_alloc, sz_set, sz_drew, sz_drewN] at *; omega)) _ | refine Below.drew ?_ | refine below_drewN_ ?_ _)) hb2 (by first | omega | (simp only [sz_alloc, sz_set, sz_drew, sz_drewN]; omega) | (simp only [sz_alloc, sz_set, sz_drew, sz_drewN] at *; omega))⟩
        have HBw2 : Since w w2 := ⟨below_cat (by repeat (first | exact Below.refl _ _ | exact Since.out (by assumption) | refine Below.alloc ?_ (by first | omega | (simp only [sz_alloc, sz_set, sz_drew, sz_drewN]; omega) | (simp only [sz_alloc, sz_set, sz_drew, sz_drewN] at *; omega)) _ | refine Below.setCell ?_ (by first | omega | (simp only [sz_alloc, sz_set, sz_drew, sz_drewN]; omega) | (simp only [sz_alloc, sz_set, sz_drew, sz_drewN] at *; omega)) _ | refine Below.drew ?_ | refine below_drewN_ ?_ _)) hb2 (by first | omega | (simp only [sz_alloc, sz_set, sz_drew, sz_drewN]; omega) | (simp only [sz_alloc, sz_set, sz_drew, sz_drewN] at *; omega))⟩; have hzw2 := hb2.size; (try simp only [sz_alloc, sz_set, sz_drew, sz_drewN] at hzw2); have hcw2k0 := fun o => hb2.cell (p := ⟨w.heap.size, o, none⟩) (by first | omega | (simp only [sz_alloc, sz_set, sz_drew, sz_drewN]; omega) | (simp only [sz_alloc, sz_set, sz_drew, sz_drewN] at *; omega)); have hfw2k0 := fun o => hb2.frozen (p := ⟨w.heap.size, o, none⟩) (by first | omega | (simp only [sz_alloc, sz_set, sz_drew, sz_drewN]; omega) | (simp only [sz_alloc, sz_set, sz_drew, sz_drewN] at *; omega)); have hlw2k0 : w.heap.size < w2.heap.size := (by first | omega | (simp only [sz_alloc, sz_set, sz_drew, sz_drewN]; omega) | (simp only [sz_alloc, sz_set, sz_drew, sz_drewN] at *; omega))
        have hcw2g := fun o => hb2.cell (p := ⟨gA, o, none⟩) (by first | omega | (simp only [sz_alloc, sz_set, sz_drew, sz_drewN]; omega) | (simp only [sz_alloc, sz_set, sz_drew, sz_drewN] at *; omega)); have hfw2g := fun o => hb2.frozen (p := ⟨gA, o, none⟩) (by first | omega | (simp only [sz_alloc, sz_set, sz_drew, sz_drewN]; omega) | (simp only [sz_alloc, sz_set, sz_drew, sz_drewN] at *; omega)); have hlw2g : gA < _ := Nat.lt_of_lt_of_le (m := _) (by first | omega | (simp only [sz_alloc, sz_set, sz_drew, sz_drewN]; omega) | (simp only [sz_alloc, sz_set, sz_drew, sz_drewN] at *; omega)) hb2.size
        have hcw2t := fun o => hb2.cell (p := ⟨w1.heap.size, o, none⟩) (by first | omega | (simp only [sz_alloc, sz_set, sz_drew, sz_drewN]; omega) | (simp only [sz_alloc, sz_set, sz_drew, sz_drewN] at *; omega)); have hfw2t := fun o => hb2.frozen (p := ⟨w1.heap.size, o, none⟩) (by first | omega | (simp only [sz_alloc, sz_set, sz_drew, sz_drewN]; omega) | (simp only [sz_alloc, sz_set, sz_drew, sz_drewN] at *; omega)); have hlw2t : w1.heap.size < _ := Nat.lt_of_lt_of_le (m := _) (by first | omega | (simp only [sz_alloc, sz_set, sz_drew, sz_drewN]; omega) | (simp only [sz_alloc, sz_set, sz_drew, sz_drewN] at *; omega)) hb2.size
        go_wp2_with fail
        refine hK.out _ _ (by (try dsimp only); (first | (go_keep; done) | (and_intros <;> go_simp))) (fun hHeld => ?_)
        clear hK K
        (try simp only [Act.put, List.setIfInBounds_toArray, List.set_cons_zero, List.set_cons_succ])
        refine Held.one (i := 7) (by (simp only [List.getElem?_toArray, List.getElem?_cons_succ, List.getElem?_cons_zero]); exact rfl) (by kernel_rfl) (fun K hK => ?_)
        go_simp
        refine (HNb.out _ (HE0.out.up (by repeat (first | exact Below.refl _ _ | exact Since.out (by assumption) | refine Below.alloc ?_ (by first | omega | (simp only [sz_alloc, sz_set, sz_drew, sz_drewN]; omega) | (simp only [sz_alloc, sz_set, sz_drew, sz_drewN] at *; omega)) _ | refine Below.setCell ?_ (by first | omega | (simp only [sz_alloc, sz_set, sz_drew, sz_drewN]; omega) | (simp only [sz_alloc, sz_set, sz_drew, sz_drewN] at *; omega)) _ | refine Below.drew ?_ | refine below_drewN_ ?_ _)))).mono ?_
        rintro e w3 ⟨rfl, hb3⟩
        have HQ3 : Since w1 w3 := ⟨below_cat (by repeat (first | exact Below.refl _ _ | exact Since.out (by assumption) | refine Below.alloc ?_ (by first | omega | (simp only [sz_alloc, sz_set, sz_drew, sz_drewN]; omega) | (simp only [sz_alloc, sz_set, sz_drew, sz_drewN] at *; omega)) _ | refine Below.setCell ?_ (by first | omega | (simp only [sz_alloc, sz_set, sz_drew, sz_drewN]; omega) | (simp only [sz_alloc, sz_set, sz_drew, sz_drewN] at *; omega)) _ | refine Below.drew ?_ | refine below_drewN_ ?_ _)) hb3 (by first | omega | (simp only [sz_alloc, sz_set, sz_drew, sz_drewN]; omega) | (simp only [sz_alloc, sz_set, sz_drew, sz_drewN] at *; omega))⟩
        have HBw3 : Since w w3 := ⟨below_cat (by repeat (first | exact Below.refl _ _ | exact Since.out (by assumption) | refine Below.alloc ?_ (by first | omega | (simp only [sz_alloc, sz_set, sz_drew, sz_drewN]; omega) | (simp only [sz_alloc, sz_set, sz_drew, sz_drewN] at *; omega)) _ | refine Below.setCell ?_ (by first | omega | (simp only [sz_alloc, sz_set, sz_drew, sz_drewN]; omega) | (simp only [sz_alloc, sz_set, sz_drew, sz_drewN] at *; omega)) _ | refine Below.drew ?_ | refine below_drewN_ ?_ _)) hb3 (by first | omega | (simp only [sz_alloc, sz_set, sz_drew, sz_drewN]; omega) | (simp only [sz_alloc, sz_set, sz_drew, sz_drewN] at *; omega))⟩; have hzw3 := hb3.size; (try simp only [sz_alloc, sz_set, sz_drew, sz_drewN] at hzw3); have hcw3k0 := fun o => hb3.cell (p := ⟨w.heap.size, o, none⟩) (by first | omega | (simp only [sz_alloc, sz_set, sz_drew, sz_drewN]; omega) | (simp only [sz_alloc, sz_set, sz_drew, sz_drewN] at *; omega)); have hfw3k0 := fun o => hb3.frozen (p := ⟨w.heap.size, o, none⟩) (by first | omega | (simp only [sz_alloc, sz_set, sz_drew, sz_drewN]; omega) | (simp only [sz_alloc, sz_set, sz_drew, sz_drewN] at *; omega)); have hlw3k0 : w.heap.size < w3.heap.size := (by first | omega | (simp only [sz_alloc, sz_set, sz_drew, sz_drewN]; omega) | (simp only [sz_alloc, sz_set, sz_drew, sz_drewN] at *; omega))
        have hcw3g := fun o => hb3.cell (p := ⟨gA, o, none⟩) (by first | omega | (simp only [sz_alloc, sz_set, sz_drew, sz_drewN]; omega) | (simp only [sz_alloc, sz_set, sz_drew, sz_drewN] at *; omega)); have hfw3g := fun o => hb3.frozen (p := ⟨gA, o, none⟩) (by first | omega | (simp only [sz_alloc, sz_set, sz_drew, sz_drewN]; omega) | (simp only [sz_alloc, sz_set, sz_drew, sz_drewN] at *; omega)); have hlw3g : gA < _ := Nat.lt_of_lt_of_le (m := _) (by first | omega | (simp only [sz_alloc, sz_set, sz_drew, sz_drewN]; omega) | (simp only [sz_alloc, sz_set, sz_drew, sz_drewN] at *; omega)) hb3.size
        have hcw3t := fun o => hb3.cell (p := ⟨w1.heap.size, o, none⟩) (by first | omega | (simp only [sz_alloc, sz_set, sz_drew, sz_drewN]; omega) | (simp only [sz_alloc, sz_set, sz_drew, sz_drewN] at *; omega)); have hfw3t := fun o => hb3.frozen (p := ⟨w1.heap.size, o, none⟩) (by first | omega | (simp only [sz_alloc, sz_set, sz_drew, sz_drewN]; omega) | (simp only [sz_alloc, sz_set, sz_drew, sz_drewN] at *; omega)); have hlw3t : w1.heap.size < _ := Nat.lt_of_lt_of_le (m := _) (by first | omega | (simp only [sz_alloc, sz_set, sz_drew, sz_drewN]; omega) | (simp only [sz_alloc, sz_set, sz_drew, sz_drewN] at *; omega)) hb3.size
        go_wp2_with fail
        refine hK.out _ _ (by (try dsimp only); (first | (go_keep; done) | (and_intros <;> go_simp))) (fun hHeld => ?_)
        clear hK K
        (try simp only [Act.put, List.setIfInBounds_toArray, List.set_cons_zero, List.set_cons_succ])
        refine Held.take (i := 8) (v := ?_) (by (simp only [List.getElem?_toArray, List.getElem?_cons_succ, List.getElem?_cons_zero]); exact rfl) (by decide) (by kernel_rfl) (by kernel_rfl) (by kernel_rfl) (by kernel_rfl) (by exact fun _ _ _ h => h) (by refine Or.inl ⟨by rfl, ?_⟩; intro wS hSw; (try dsimp only at hSw); go_simp; (try with_reducible rfl)) (by assumption) ?_
        (try simp only [Act.put, List.setIfInBounds_toArray, List.set_cons_zero, List.set_cons_succ])
        refine Held.last (i := 10) (by (simp only [List.getElem?_toArray, List.getElem?_cons_succ, List.getElem?_cons_zero]); exact rfl) (by decide) (by kernel_rfl) (fun K hK => ?_)
        go_simp
        refine hK.out _ _ ?_
        clear hK K
        (try simp only [Act.put, List.setIfInBounds_toArray, List.set_cons_zero, List.set_cons_succ])
        refine Held.done (by kernel_rfl) ?_ _
        go_wp2_with fail
        go_meet
        exact ⟨_, rfl, Lib.hid (by repeat (first | (with_reducible exact new_block rfl) | ((with_reducible refine new_block ?_); (focus (simp only [sz_alloc, sz_set, sz_drew, sz_drewN]; done))) | ((with_reducible refine blk_fill4 (cur := #[.int .i64 0 , .int .i64 0 , .slice none 0 0 , .slice none 0 0]) ?_ ?_); rotate_left; (focus (rfl; done))) | ((with_reducible refine blk_far ?_ ?_ _); rotate_left; (focus ((try simp only [ne_eq]); omega; done))) | ((with_reducible refine alloc_block ?_ ?_); rotate_left; (focus (first | omega | (simp only [sz_alloc, sz_set, sz_drew, sz_drewN]; omega) | (simp only [sz_alloc, sz_set, sz_drew, sz_drewN] at *; omega); done))) | rw [heap_drew] | ((with_reducible refine (Below.block (by first | exact hb2 | exact hb3) _ ?_).trans ?_); (focus (first | omega | (simp only [sz_alloc, sz_set, sz_drew, sz_drewN]; omega) | (simp only [sz_alloc, sz_set, sz_drew, sz_drewN] at *; omega); done))))), (by first | omega | (simp only [sz_alloc, sz_set, sz_drew, sz_drewN]; omega) | (simp only [sz_alloc, sz_set, sz_drew, sz_drewN] at *; omega)), ⟨(by repeat (first | exact Below.refl _ _ | exact Since.out (by assumption) | refine Below.alloc ?_ (by first | omega | (simp only [sz_alloc, sz_set, sz_drew, sz_drewN]; omega) | (simp only [sz_alloc, sz_set, sz_drew, sz_drewN] at *; omega)) _ | refine Below.setCell ?_ (by first | omega | (simp only [sz_alloc, sz_set, sz_drew, sz_drewN]; omega) | (simp only [sz_alloc, sz_set, sz_drew, sz_drewN] at *; omega)) _ | refine Below.drew ?_ | refine below_drewN_ ?_ _))⟩⟩
    case rest =>
      obtain ⟨g, rfl, HG, hg1, HQ2⟩ := hcut
      obtain ⟨w2, rfl⟩ : ∃ x, x = wc := ⟨_, rfl⟩
      have hgl : g < w2.heap.size := (Array.getElem?_eq_some_iff.1 HG.out).1
      have hz2 := HQ2.out.size
      clear ca cb
      go_wp2
      go_loopw [33] (fun i wr => ∃ (k : Nat) (A : Option Addr) (c : Nat) (D : Option Addr) (m : Nat) (bs : List Nat), k ≤ n ∧ i = .int .i64 k ∧ Hid (wr.heap[g]? = some (.cells #[.int .i64 V1, .int .i64 V2, .slice A k c, .slice D k m] 33 (0, 0))) ∧ Hid (AccN wr w2.heap.size 4 83 A k c ((ls.take k).map rowYes) D k m ((ls.take k).map rowNI) bs) ∧ Since w1 wr ∧ w2.heap.size ≤ wr.heap.size) (fun i _ => n - (intOf i).toNat)
      case atStart => exact ⟨0, none, 0, none, 0, [], Nat.zero_le _, rfl, HG, Lib.hid (AccN.nil_ _ _ _ _), HQ2, Nat.le_refl _⟩
      case round =>
        obtain ⟨k, A, c, D, m, bs, hk, rfl, HB, HA, hs, hzr⟩ := hrel
        obtain ⟨wo, rfl⟩ : ∃ wo, wo = wr := ⟨_, rfl⟩
        have hzo := hs.out.size
        have HSw : Since w wo := ⟨HBw1.out.trans (hs.out.mono HBw1.out.size)⟩
        by_cases hlt : k < n
        · obtain ⟨x, hx⟩ := get_some (xs := ls) (k := k) (by rw [← HN.out]; exact hlt)
          have hxl := HIN.out x (List.mem_of_getElem? hx)
          have HT : Hid ((ls.take (k + 1)).map rowNI = (ls.take k).map rowNI ++ [rowNI x]) := Lib.hid (by rw [take_snoc hx]; simp)
          have HTY : Hid ((ls.take (k + 1)).map rowYes = (ls.take k).map rowYes ++ [rowYes x]) := Lib.hid (by rw [take_snoc hx]; simp)
          obtain ⟨bl, ol, rfl, hbl, cx⟩ := (r1.below hs.out (Nat.le_refl _)).bs (bs_get hx)
          have hbl2 : bl < wo.heap.size := by omega
          have i2 : (0 : Int) ≤ (k : Int) := by omega
          have i3 : (k : Int) < (n : Int) := by omega
          have HC := Lib.hid (fun W hW => split_impl2 x 32 W hW (by omega))
          have hwl := splitL_len 32 x
          have hwne := List.length_pos_iff.2 (splitL_ne 32 x)
          have hwin : ∀ y ∈ splitL 32 x, y.length ≤ x.length := splitL_in 32 x
          obtain ⟨ws, hws⟩ : ∃ ws, ws = splitL 32 x := ⟨_, rfl⟩
          have HR : Hid (rowNI x = ws.tail.map numI) := Lib.hid (by rw [hws]; rfl)
          have hyes : rowYes x = decide (ws[0]? = some yesT) := by rw [hws]; rfl
          rw [← hws] at HC hwl hwne hwin
          obtain ⟨x0, hx0⟩ := get_some hwne
          obtain ⟨Y, hY⟩ : ∃ Y, Y = rowYes x := ⟨_, rfl⟩
          have qY : (x0 == [121, 101, 115]) = Y := by
            rw [hY, hyes, hx0]
            show (x0 == yesT) = _
            by_cases h : x0 = yesT <;> simp [h]
          rw [← hY] at HTY
          obtain ⟨q, hq⟩ : ∃ q, ws.length = q + 1 := ⟨ws.length - 1, by omega⟩
          rw [hq] at hwl
          have HWI := Lib.hid hwin
          have HQL := Lib.hid hq
          have hq' : ws.tail.length = q := by rw [List.length_tail, hq]; rfl
          have HQ' := Lib.hid hq'
          have hx0b := bs_get hx0
          have HC : Hid (∀ W, Env W → Calls Tryd.prog 58 #[.string (str x), .string ⟨#[32]⟩] W fun e w' => ∃ b, e = .returned (.slice (some ⟨b, 0, none⟩) (q + 1) (q + 1)) ∧ RdS w' w'.heap.size (some ⟨b, 0, none⟩) (ws.map Bs.mk) ∧ W.heap.size ≤ b ∧ b < w'.heap.size ∧ Below W.heap.size W w') := Lib.hid (by rw [← hq]; exact HC.out)
          clear hx hws hwne hwin hq hq' hx0 hY hyes
          go_wp2_with fail
          refine (HC.out _ (HE0.out.up (by repeat (first | exact Below.refl _ _ | exact Since.out (by assumption) | refine Below.alloc ?_ (by first | omega | (simp only [sz_alloc, sz_set, sz_drew, sz_drewN]; omega) | (simp only [sz_alloc, sz_set, sz_drew, sz_drewN] at *; omega)) _ | refine Below.setCell ?_ (by first | omega | (simp only [sz_alloc, sz_set, sz_drew, sz_drewN]; omega) | (simp only [sz_alloc, sz_set, sz_drew, sz_drewN] at *; omega)) _ | refine Below.drew ?_ | refine below_drewN_ ?_ _)))).mono ?_
          rintro e w3 ⟨b0, rfl, r3, hfr, hblt, hb3⟩
          obtain ⟨o3, x3, rt⟩ := words_tail r3 HQL.out
          obtain ⟨g', o', e', _, cx0⟩ := r3.bs hx0b
          cases e'
          rw [Nat.add_zero] at cx0
          have HS3 : Since wo w3 := ⟨hb3⟩
          have hz3 := hb3.size
          have hg3 : g < w3.heap.size := by omega
          have hB3 : w3.heap[g]? = some (.cells #[.int .i64 V1, .int .i64 V2, .slice A k c, .slice D k m] 33 (0, 0)) := (hb3.block g (by omega)).trans HB.out
          have kg2 : w3.cell? ⟨g, 2, none⟩ = some (.slice A k c) := cell_of_row w3 _ 2 _ _ (0, 0) hB3
          have HB3 := Lib.hid hB3
          have HA3 := Lib.hid (HA.out.below hb3 (Nat.le_refl _))
          have hb0g : g ≠ b0 := by omega
          have hb0A : ∀ a, A = some a → a.block ≠ b0 := fun a ha e => by have := HA.out.one.lt a ha; omega
          have HBA := Lib.hid hb0A
          clear r3 hx0b hB3 hb0A
          go_wp2
          refine Held.begin (fun w' => w'.cell? ⟨g, 2, none⟩ = some (.slice A k c) ∧ w'.cell? ⟨b0, 0, none⟩ = some (.string (str x0))) 8 (by kernel_rfl) (by (try dsimp only); (first | (go_keep; done) | (and_intros <;> go_simp))) (fun hHeld => ?_); (first | (refine Held.take (i := 0) (v := undef) (by (simp only [List.getElem?_toArray, List.getElem?_cons_succ, List.getElem?_cons_zero]); exact rfl) (by decide) (by kernel_rfl) (by kernel_rfl) (by kernel_rfl) (by kernel_rfl) (by exact fun _ _ _ h => h) (by exact Or.inr ⟨by rfl, rfl⟩) (by assumption) ?_) | (refine Held.take (i := 0) (v := ?_) (by (simp only [List.getElem?_toArray, List.getElem?_cons_succ, List.getElem?_cons_zero]); exact rfl) (by decide) (by kernel_rfl) (by kernel_rfl) (by kernel_rfl) (by kernel_rfl) (by exact fun _ _ _ h => h) (by refine Or.inl ⟨by rfl, ?_⟩; intro wS hSw; (try dsimp only at hSw); go_simp; (try with_reducible rfl)) (by assumption) ?_)); (try simp only [Act.put, List.setIfInBounds_toArray, List.set_cons_zero, List.set_cons_succ]); (first | (refine Held.take (i := 1) (v := undef) (by (simp only [List.getElem?_toArray, List.getElem?_cons_succ, List.getElem?_cons_zero]); exact rfl) (by decide) (by kernel_rfl) (by kernel_rfl) (by kernel_rfl) (by kernel_rfl) (by exact fun _ _ _ h => h) (by exact Or.inr ⟨by rfl, rfl⟩) (by assumption) ?_) | (refine Held.take (i := 1) (v := ?_) (by (simp only [List.getElem?_toArray, List.getElem?_cons_succ, List.getElem?_cons_zero]); exact rfl) (by decide) (by kernel_rfl) (by kernel_rfl) (by kernel_rfl) (by kernel_rfl) (by exact fun _ _ _ h => h) (by refine Or.inl ⟨by rfl, ?_⟩; intro wS hSw; (try dsimp only at hSw); go_simp; (try with_reducible rfl)) (by assumption) ?_)); (try simp only [Act.put, List.setIfInBounds_toArray, List.set_cons_zero, List.set_cons_succ]); (first | (refine Held.take (i := 2) (v := undef) (by (simp only [List.getElem?_toArray, List.getElem?_cons_succ, List.getElem?_cons_zero]); exact rfl) (by decide) (by kernel_rfl) (by kernel_rfl) (by kernel_rfl) (by kernel_rfl) (by exact fun _ _ _ h => h) (by exact Or.inr ⟨by rfl, rfl⟩) (by assumption) ?_) | (refine Held.take (i := 2) (v := ?_) (by (simp only [List.getElem?_toArray, List.getElem?_cons_succ, List.getElem?_cons_zero]); exact rfl) (by decide) (by kernel_rfl) (by kernel_rfl) (by kernel_rfl) (by kernel_rfl) (by exact fun _ _ _ h => h) (by refine Or.inl ⟨by rfl, ?_⟩; intro wS hSw; (try dsimp only at hSw); go_simp; (try with_reducible rfl)) (by assumption) ?_)); (try simp only [Act.put, List.setIfInBounds_toArray, List.set_cons_zero, List.set_cons_succ]); (first | (refine Held.take (i := 3) (v := undef) (by (simp only [List.getElem?_toArray, List.getElem?_cons_succ, List.getElem?_cons_zero]); exact rfl) (by decide) (by kernel_rfl) (by kernel_rfl) (by kernel_rfl) (by kernel_rfl) (by exact fun _ _ _ h => h) (by exact Or.inr ⟨by rfl, rfl⟩) (by assumption) ?_) | (refine Held.take (i := 3) (v := ?_) (by (simp only [List.getElem?_toArray, List.getElem?_cons_succ, List.getElem?_cons_zero]); exact rfl) (by decide) (by kernel_rfl) (by kernel_rfl) (by kernel_rfl) (by kernel_rfl) (by exact fun _ _ _ h => h) (by refine Or.inl ⟨by rfl, ?_⟩; intro wS hSw; (try dsimp only at hSw); go_simp; (try with_reducible rfl)) (by assumption) ?_)); (try simp only [Act.put, List.setIfInBounds_toArray, List.set_cons_zero, List.set_cons_succ]); (first | (refine Held.take (i := 4) (v := undef) (by (simp only [List.getElem?_toArray, List.getElem?_cons_succ, List.getElem?_cons_zero]); exact rfl) (by decide) (by kernel_rfl) (by kernel_rfl) (by kernel_rfl) (by kernel_rfl) (by exact fun _ _ _ h => h) (by exact Or.inr ⟨by rfl, rfl⟩) (by assumption) ?_) | (refine Held.take (i := 4) (v := ?_) (by (simp only [List.getElem?_toArray, List.getElem?_cons_succ, List.getElem?_cons_zero]); exact rfl) (by decide) (by kernel_rfl) (by kernel_rfl) (by kernel_rfl) (by kernel_rfl) (by exact fun _ _ _ h => h) (by refine Or.inl ⟨by rfl, ?_⟩; intro wS hSw; (try dsimp only at hSw); go_simp; (try with_reducible rfl)) (by assumption) ?_)); (try simp only [Act.put, List.setIfInBounds_toArray, List.set_cons_zero, List.set_cons_succ]); (first | (refine Held.take (i := 5) (v := undef) (by (simp only [List.getElem?_toArray, List.getElem?_cons_succ, List.getElem?_cons_zero]); exact rfl) (by decide) (by kernel_rfl) (by kernel_rfl) (by kernel_rfl) (by kernel_rfl) (by exact fun _ _ _ h => h) (by exact Or.inr ⟨by rfl, rfl⟩) (by assumption) ?_) | (refine Held.take (i := 5) (v := ?_) (by (simp only [List.getElem?_toArray, List.getElem?_cons_succ, List.getElem?_cons_zero]); exact rfl) (by decide) (by kernel_rfl) (by kernel_rfl) (by kernel_rfl) (by kernel_rfl) (by exact fun _ _ _ h => h) (by refine Or.inl ⟨by rfl, ?_⟩; intro wS hSw; (try dsimp only at hSw); go_simp; (try with_reducible rfl)) (by assumption) ?_)); (try simp only [Act.put, List.setIfInBounds_toArray, List.set_cons_zero, List.set_cons_succ]); refine Held.one (i := 6) (by (simp only [List.getElem?_toArray, List.getElem?_cons_succ, List.getElem?_cons_zero]); exact rfl) (by kernel_rfl) (fun K hK => ?_); go_simp; refine hK.out _ _ (by (try dsimp only); (first | (go_keep; done) | (and_intros <;> go_simp))) (fun hHeld => ?_); clear hK K; (try simp only [Act.put, List.setIfInBounds_toArray, List.set_cons_zero, List.set_cons_succ]); refine Held.one (i := 7) (by (simp only [List.getElem?_toArray, List.getElem?_cons_succ, List.getElem?_cons_zero]); exact rfl) (by kernel_rfl) (fun K hK => ?_); (refine step_push (α := Bool) _ (by rfl) (.tmp 40) (.tmp 45) 30 (by rfl) w2.heap.size 4 (.bool false) 1 Tryd.underlying30 infoBoolS rfl A k c _ [] (by rfl) (HA3.out.one.drew.alloc _) w3.heap.size 1 (by rfl) Y [.bool Y] [] ⟨rfl, rfl⟩ (fun j u hu => new_cells (w := w3.drew) rfl j u hu) (fun u hu => by (simp at hu; subst hu; rfl)) ⟨List.nodup_nil, fun g hg => by simp at hg⟩ (fun g hg => by simp at hg) (by omega) (by omega) (by first | omega | (simp only [sz_alloc, sz_set, sz_drew, sz_drewN]; omega) | (simp only [sz_alloc, sz_set, sz_drew, sz_drewN] at *; omega)) ?_; intro A4 c4 w4 hacc hgr hnew; have hB1 := Lib.hid (Acc.box (HA3.out.one.drew.alloc _) hgr (alloc_block (show w3.drew.heap[g]? = _ from HB3.out) hg3) hgl); have qe0 := (hgr.cell_far ⟨g, 2, none⟩ (by first | omega | (simp only [sz_alloc, sz_set, sz_drew, sz_drewN]; omega) | (simp only [sz_alloc, sz_set, sz_drew, sz_drewN] at *; omega)) (HA3.out.one.far (by show g < _; omega))).trans (show (World.alloc _ _).cell? _ = some (.slice A k c) by go_simp); have qe1 : w4.cell? ⟨b0, 0, none⟩ = some (.string (str x0)) := (World.cell?_of_block (a := ⟨b0, 0, none⟩) (grown_block hgr (k := b0) (by first | omega | (simp only [sz_alloc, sz_set, sz_drew, sz_drewN]; omega) | (simp only [sz_alloc, sz_set, sz_drew, sz_drewN] at *; omega)) HBA.out)).trans (show (World.alloc _ _).cell? _ = some (.string (str x0)) by go_simp); have HA4 := Lib.hid ((HA3.out.drew.alloc _).grow1 hacc hgr hnew); have HK4 : Hid (w4.heap[b0]? = w3.heap[b0]?) := Lib.hid ((grown_block hgr (k := b0) (by first | omega | (simp only [sz_alloc, sz_set, sz_drew, sz_drewN]; omega) | (simp only [sz_alloc, sz_set, sz_drew, sz_drewN] at *; omega)) HBA.out).trans (Below.block (B := w3.heap.size) (by repeat (first | exact Below.refl _ _ | refine Below.alloc ?_ (by first | omega | (simp only [sz_alloc, sz_set, sz_drew, sz_drewN]; omega) | (simp only [sz_alloc, sz_set, sz_drew, sz_drewN] at *; omega)) _ | refine Below.setCell ?_ (by first | omega | (simp only [sz_alloc, sz_set, sz_drew, sz_drewN]; omega) | (simp only [sz_alloc, sz_set, sz_drew, sz_drewN] at *; omega)) _ | refine Below.drew ?_ | refine below_drewN_ ?_ _)) _ hblt)); have HS4 : Since w1 w4 := ⟨Acc.since (HA3.out.one.drew.alloc _) hgr ((hs.out.trans (hb3.mono hzo)).drew.alloc (by first | omega | (simp only [sz_alloc, sz_set, sz_drew, sz_drewN]; omega) | (simp only [sz_alloc, sz_set, sz_drew, sz_drewN] at *; omega)) _) hz2 (by first | omega | (simp only [sz_alloc, sz_set, sz_drew, sz_drewN]; omega) | (simp only [sz_alloc, sz_set, sz_drew, sz_drewN] at *; omega))⟩; have hz4 : w3.heap.size ≤ w4.heap.size := Nat.le_trans (by first | omega | (simp only [sz_alloc, sz_set, sz_drew, sz_drewN]; omega) | (simp only [sz_alloc, sz_set, sz_drew, sz_drewN] at *; omega)) hgr.size; have f0 : w4.frozen? ⟨g, 2, none⟩ = false := blk_free hB1.out; clear hacc hgr hnew); refine hK.out _ _ (by (try dsimp only); (first | (go_keep; done) | (and_intros <;> go_simp))) (fun hHeld => ?_); clear hK K; (try simp only [Act.put, List.setIfInBounds_toArray, List.set_cons_zero, List.set_cons_succ]); refine Held.last (i := 8) (by (simp only [List.getElem?_toArray, List.getElem?_cons_succ, List.getElem?_cons_zero]); exact rfl) (by decide) (by kernel_rfl) (fun K hK => ?_); go_simp; refine hK.out _ _ ?_; clear hK K; (try simp only [Act.put, List.setIfInBounds_toArray, List.set_cons_zero, List.set_cons_succ]); refine Held.last (i := 9) (by (simp only [List.getElem?_toArray, List.getElem?_cons_succ, List.getElem?_cons_zero]); exact rfl) (by decide) (by kernel_rfl) (fun K hK => ?_); go_simp; refine hK.out _ _ ?_; clear hK K; (try simp only [Act.put, List.setIfInBounds_toArray, List.set_cons_zero, List.set_cons_succ]); refine Held.done (by kernel_rfl) ?_ _
          obtain ⟨W, hW⟩ : ∃ W, W = w4.setCell ⟨g, 2, none⟩ (.slice A4 (k + 1) c4) := ⟨_, rfl⟩
          have HBW : Hid (W.heap[g]? = some (.cells #[.int .i64 V1, .int .i64 V2, .slice A4 (k + 1) c4, .slice D k m] 33 (0, 0))) := Lib.hid (by rw [hW]; exact blk_set hB1.out _)
          have HAW : Hid (AccN W w2.heap.size 4 83 A4 (k + 1) c4 ((ls.take (k + 1)).map rowYes) D k m ((ls.take k).map rowNI) bs) := Lib.hid (by rw [hW, HTY.out]; exact HA4.out.setCell hgl _)
          have HKW : Hid (W.heap[b0]? = w3.heap[b0]?) := Lib.hid (by rw [hW, Below.heap_setCell _ _ _ _ (Ne.symm hb0g)]; exact HK4.out)
          have HSW : Since w1 W := ⟨by rw [hW]; exact HS4.out.setCell hg1 _⟩
          have hzW : w3.heap.size ≤ W.heap.size := by rw [hW, sz_set]; exact hz4
          have hgW : g < W.heap.size := by omega
          have hbW : b0 < W.heap.size := by omega
          rw [← hW]
          have HSwW : Since w W := ⟨HBw1.out.trans (HSW.out.mono HBw1.out.size)⟩
          clear hW hB1 qe0 qe1 f0 hz4 HS4 HA4 HK4 kg2 cx0
          go_wp2
          go_loopw [10, 52] (fun out i wi => ∃ (j : Nat) (E : Option Addr) (f : Nat), j ≤ q ∧ out = .slice E j f ∧ i = .int .i64 j ∧ Hid (Acc wi W.heap.size 2 E j f ((ws.tail.take j).map numI) []) ∧ Since W wi) (fun _ i _ => q - (intOf i).toNat)
          case atStart => exact ⟨0, _, _, Nat.zero_le _, rfl, rfl, Lib.hid (Acc.empty_ (new_block rfl) (Nat.le_refl _)), ⟨(by repeat (first | exact Below.refl _ _ | refine Below.alloc ?_ (by first | omega | (simp only [sz_alloc, sz_set, sz_drew, sz_drewN]; omega) | (simp only [sz_alloc, sz_set, sz_drew, sz_drewN] at *; omega)) _ | refine Below.setCell ?_ (by first | omega | (simp only [sz_alloc, sz_set, sz_drew, sz_drewN]; omega) | (simp only [sz_alloc, sz_set, sz_drew, sz_drewN] at *; omega)) _ | refine Below.drew ?_ | refine below_drewN_ ?_ _))⟩⟩
          case round =>
            obtain ⟨j, E, f, hj, rfl, rfl, H2, hs2⟩ := hrel
            obtain ⟨wi, rfl⟩ : ∃ wi, wi = wr := ⟨_, rfl⟩
            have hzi := hs2.out.size
            have HSi : Since w wi := ⟨HSwW.out.trans (hs2.out.mono HSwW.out.size)⟩
            by_cases hlt2 : j < q
            · obtain ⟨y, hy⟩ := get_some (xs := ws.tail) (k := j) (by rw [HQ'.out]; exact hlt2)
              have hyl := HWI.out y (List.mem_of_mem_tail (List.mem_of_getElem? hy))
              obtain ⟨b', o', hbo, _, cy⟩ := rt.bs (bs_get hy)
              cases hbo
              have cy : wi.cell? ⟨b0, o3 + j, none⟩ = some (.string (str y)) := by
                rw [← cy]
                unfold World.cell?
                simp only
                rw [hs2.out.block b0 hbW, HKW.out]
              have hbb2 : b0 < wi.heap.size := by omega
              have j2 : (0 : Int) ≤ (j : Int) := by omega
              have j3 : (j : Int) < (q : Int) := by omega
              have HM := Lib.hid (fun W hW => number_impl y W hW (by omega))
              obtain ⟨V, hV⟩ : ∃ V, V = numI y := ⟨_, rfl⟩
              have HZ2 : Hid ((ws.tail.take (j + 1)).map numI = (ws.tail.take j).map numI ++ [V]) := Lib.hid (by rw [take_snoc hy]; simp [hV])
              rw [← hV] at HM
              clear hy hV
              go_wp2_with fail
              refine (HM.out _ (HE0.out.up (by repeat (first | exact Below.refl _ _ | exact Since.out (by assumption) | refine Below.alloc ?_ (by first | omega | (simp only [sz_alloc, sz_set, sz_drew, sz_drewN]; omega) | (simp only [sz_alloc, sz_set, sz_drew, sz_drewN] at *; omega)) _ | refine Below.setCell ?_ (by first | omega | (simp only [sz_alloc, sz_set, sz_drew, sz_drewN]; omega) | (simp only [sz_alloc, sz_set, sz_drew, sz_drewN] at *; omega)) _ | refine Below.drew ?_ | refine below_drewN_ ?_ _)))).mono ?_
              rintro e w5 ⟨rfl, hb5⟩
              have HBi5 : Since wi w5 := ⟨hb5⟩
              have hz5 := hb5.size
              have HBW5 : Since W w5 := ⟨hs2.out.trans (hb5.mono hzi)⟩
              go_wp2_with (at_builtin; refine wpList_push (α := Int) _ (by rfl) (.tmp 56) (.tmp 59) 83 (by rfl) W.heap.size 2 (.int .i64 0) 8 Tryd.underlying83 infoInt64S rfl E j f _ [] (by rfl) (H2.out.below (C := wi.heap.size) (by repeat (first | exact Below.refl _ _ | exact Since.out (by assumption) | refine Below.alloc ?_ (by first | omega | (simp only [sz_alloc, sz_set, sz_drew, sz_drewN]; omega) | (simp only [sz_alloc, sz_set, sz_drew, sz_drewN] at *; omega)) _ | refine Below.setCell ?_ (by first | omega | (simp only [sz_alloc, sz_set, sz_drew, sz_drewN]; omega) | (simp only [sz_alloc, sz_set, sz_drew, sz_drewN] at *; omega)) _ | refine Below.drew ?_ | refine below_drewN_ ?_ _)) (Nat.le_refl _)) w5.heap.size 1 (by rfl) V [.int .i64 V] [] ⟨rfl, rfl⟩ (new_cells (by first | rfl | simp [sz_set])) (fun u hu => by (simp at hu; subst hu; rfl)) ⟨List.nodup_nil, fun g hg => by simp at hg⟩ (fun g hg => by simp at hg) (by omega) (by omega) (by first | omega | (simp only [sz_alloc, sz_set, sz_drew, sz_drewN]; omega) | (simp only [sz_alloc, sz_set, sz_drew, sz_drewN] at *; omega)) ?_
                           intro E2 d2 w6 hacc hgr hnew
                           have HS6 : Since W w6 := ⟨Acc.since (H2.out.below (C := wi.heap.size) (by repeat (first | exact Below.refl _ _ | exact Since.out (by assumption) | refine Below.alloc ?_ (by first | omega | (simp only [sz_alloc, sz_set, sz_drew, sz_drewN]; omega) | (simp only [sz_alloc, sz_set, sz_drew, sz_drewN] at *; omega)) _ | refine Below.setCell ?_ (by first | omega | (simp only [sz_alloc, sz_set, sz_drew, sz_drewN]; omega) | (simp only [sz_alloc, sz_set, sz_drew, sz_drewN] at *; omega)) _ | refine Below.drew ?_ | refine below_drewN_ ?_ _)) (Nat.le_refl _)) hgr (by repeat (first | exact Below.refl _ _ | exact Since.out (by assumption) | refine Below.alloc ?_ (by first | omega | (simp only [sz_alloc, sz_set, sz_drew, sz_drewN]; omega) | (simp only [sz_alloc, sz_set, sz_drew, sz_drewN] at *; omega)) _ | refine Below.setCell ?_ (by first | omega | (simp only [sz_alloc, sz_set, sz_drew, sz_drewN]; omega) | (simp only [sz_alloc, sz_set, sz_drew, sz_drewN] at *; omega)) _ | refine Below.drew ?_ | refine below_drewN_ ?_ _)) (Nat.le_refl _) (by first | omega | (simp only [sz_alloc, sz_set, sz_drew, sz_drewN]; omega) | (simp only [sz_alloc, sz_set, sz_drew, sz_drewN] at *; omega))⟩
                           have HA6 := Lib.hid hacc
                           clear hacc hgr hnew)
              go_roundw
              case rel => exact ⟨j + 1, E2, d2, by omega, by first | rfl | simp, by go_num, Lib.hid (by rw [HZ2.out]; exact HA6.out), HS6⟩
              case measure => simp [intOf]; omega
            · obtain rfl : j = q := by omega
              have hrow := H2.out
              rw [List.take_of_length_le (by rw [HQ'.out]; exact Nat.le_refl _)] at hrow
              have q0 : wi.heap[g]? = some (.cells #[.int .i64 V1, .int .i64 V2, .slice A4 (k + 1) c4, .slice D k m] 33 (0, 0)) := (hs2.out.block _ hgW).trans HBW.out
              have k3 : wi.cell? ⟨g, 3, none⟩ = some (.slice D k m) := cell_of_row wi _ 3 _ _ (0, 0) q0
              have hgi : g < wi.heap.size := by omega
              have HSi1 : Since w1 wi := ⟨HSW.out.trans (hs2.out.mono HSW.out.size)⟩
              have Q0 := Lib.hid q0
              have HROW := Lib.hid hrow
              clear q0 hrow
              go_wp2_with (obtain ⟨b2, hy, hf⟩ := (HROW.out.alloc (.cells #[.slice E j f] 83)).row (by omega)
                           at_builtin; refine wpList_push (α := List Int) _ rfl (.tmp 63) (.tmp 65) 31 rfl w2.heap.size 83 (.slice none 0 0) 24 Tryd.underlying31 infoInt64SS rfl D k m _ bs rfl (HAW.out.two.below (C := W.heap.size) (by repeat (first | exact Below.refl _ _ | exact Since.out (by assumption) | refine Below.alloc ?_ (by first | omega | (simp only [sz_alloc, sz_set, sz_drew, sz_drewN]; omega) | (simp only [sz_alloc, sz_set, sz_drew, sz_drewN] at *; omega)) _ | refine Below.setCell ?_ (by first | omega | (simp only [sz_alloc, sz_set, sz_drew, sz_drewN]; omega) | (simp only [sz_alloc, sz_set, sz_drew, sz_drewN] at *; omega)) _ | refine Below.drew ?_ | refine below_drewN_ ?_ _)) (Nat.le_refl _)) wi.heap.size 1 rfl (ws.tail.map numI) [.slice E j f] b2 hy (new_cells (by first | rfl | simp [sz_set])) (fun u hu => by (simp at hu; subst hu; rfl)) ⟨hf.1, fun g hg => ⟨by have := (hf.2 g hg).1; omega, (hf.2 g hg).2⟩⟩ (HAW.out.two.apart hf (Nat.le_refl _)) (by omega) (by omega) (by first | omega | (simp only [sz_alloc, sz_set, sz_drew, sz_drewN]; omega) | (simp only [sz_alloc, sz_set, sz_drew, sz_drewN] at *; omega)) ?_
                           intro D1 d1 w7 hacc hgr hnew
                           have HS7 : Since w1 w7 := ⟨Acc.since (HAW.out.two.below (C := W.heap.size) (by repeat (first | exact Below.refl _ _ | exact Since.out (by assumption) | refine Below.alloc ?_ (by first | omega | (simp only [sz_alloc, sz_set, sz_drew, sz_drewN]; omega) | (simp only [sz_alloc, sz_set, sz_drew, sz_drewN] at *; omega)) _ | refine Below.setCell ?_ (by first | omega | (simp only [sz_alloc, sz_set, sz_drew, sz_drewN]; omega) | (simp only [sz_alloc, sz_set, sz_drew, sz_drewN] at *; omega)) _ | refine Below.drew ?_ | refine below_drewN_ ?_ _)) (Nat.le_refl _)) hgr (by repeat (first | exact Below.refl _ _ | exact Since.out (by assumption) | refine Below.alloc ?_ (by first | omega | (simp only [sz_alloc, sz_set, sz_drew, sz_drewN]; omega) | (simp only [sz_alloc, sz_set, sz_drew, sz_drewN] at *; omega)) _ | refine Below.setCell ?_ (by first | omega | (simp only [sz_alloc, sz_set, sz_drew, sz_drewN]; omega) | (simp only [sz_alloc, sz_set, sz_drew, sz_drewN] at *; omega)) _ | refine Below.drew ?_ | refine below_drewN_ ?_ _)) hz2 (by first | omega | (simp only [sz_alloc, sz_set, sz_drew, sz_drewN]; omega) | (simp only [sz_alloc, sz_set, sz_drew, sz_drewN] at *; omega))⟩
                           have hB7 := (HAW.out.two.below (w' := wi.alloc (.cells #[.slice E j f] 83)) (C := W.heap.size) (by repeat (first | exact Below.refl _ _ | exact Since.out (by assumption) | refine Below.alloc ?_ (by first | omega | (simp only [sz_alloc, sz_set, sz_drew, sz_drewN]; omega) | (simp only [sz_alloc, sz_set, sz_drew, sz_drewN] at *; omega)) _ | refine Below.setCell ?_ (by first | omega | (simp only [sz_alloc, sz_set, sz_drew, sz_drewN]; omega) | (simp only [sz_alloc, sz_set, sz_drew, sz_drewN] at *; omega)) _ | refine Below.drew ?_ | refine below_drewN_ ?_ _)) (Nat.le_refl _)).box hgr (alloc_block Q0.out hgi) hgl
                           have f7 : w7.frozen? ⟨g, 3, none⟩ = false := blk_free hB7
                           have k7 : w7.cell? ⟨g, 3, none⟩ = some (.slice D k m) := cell_of_row w7 _ 3 _ _ (0, 0) hB7
                           have hg7 : g < w7.heap.size := (Array.getElem?_eq_some_iff.1 hB7).1
                           have hz7 : w2.heap.size ≤ w7.heap.size := Nat.le_trans (show w2.heap.size ≤ (wi.alloc (.cells #[.slice E j f] 83)).heap.size by simp only [sz_alloc]; omega) hgr.size
                           have HB7 := Lib.hid hB7
                           have HA7 := Lib.hid ((HAW.out.below (w' := wi.alloc (.cells #[.slice E j f] 83)) (C := W.heap.size) (by repeat (first | exact Below.refl _ _ | exact Since.out (by assumption) | refine Below.alloc ?_ (by first | omega | (simp only [sz_alloc, sz_set, sz_drew, sz_drewN]; omega) | (simp only [sz_alloc, sz_set, sz_drew, sz_drewN] at *; omega)) _ | refine Below.setCell ?_ (by first | omega | (simp only [sz_alloc, sz_set, sz_drew, sz_drewN]; omega) | (simp only [sz_alloc, sz_set, sz_drew, sz_drewN] at *; omega)) _ | refine Below.drew ?_ | refine below_drewN_ ?_ _)) (Nat.le_refl _)).grow2 hacc hgr hnew (fun g hg a ha e => by have := HAW.out.one.lt a ha; have := (hf.2 g hg).1; omega))
                           clear hacc hgr hnew hy hf hB7)
              go_roundw
              case rel =>
                refine ⟨k + 1, A4, c4, D1, d1, bs ++ b2, by omega, by go_num, Lib.hid (blk_set HB7.out _), Lib.hid ?_, ⟨HS7.out.setCell hg1 _⟩, (by first | omega | (simp only [sz_alloc, sz_set, sz_drew, sz_drewN]; omega) | (simp only [sz_alloc, sz_set, sz_drew, sz_drewN] at *; omega))⟩
                rw [HT.out, HR.out]
                exact HA7.out.setCell hgl _
              case measure => simp [intOf]; omega
        · obtain rfl : k = n := by omega
          have hA := HA.out
          rw [List.take_of_length_le (by rw [← HN.out]; exact Nat.le_refl _)] at hA
          have hm1 : T.letters = V1 := by rw [hTe]
          have hm2 : T.start = V2 := by rw [hTe]
          have hm3 : T.accept = ls.map rowYes := by rw [hTe]
          have hm3' : T.next = ls.map rowNI := by rw [hTe]
          have hm4 : T.accept.length = k := by rw [hm3, List.length_map, HN.out]
          have hm5 : T.next.length = k := by rw [hm3', List.length_map, HN.out]
          rw [← hm3, ← hm3'] at hA
          obtain ⟨b1, b2, o1, o2, f2⟩ := hA.own
          have RA : RdS wo wo.heap.size A T.accept := hA.one.rd
          have RM : RdS wo wo.heap.size D T.next := hA.two.rd
          have HTe := Lib.hid hTe
          clear hm3 hm3' hA hTe
          have q0 := HB.out
          have k0 : wo.cell? ⟨g, 0, none⟩ = some (.int .i64 V1) := cell_of_row wo _ 0 _ _ (0, 0) q0
          have k1 : wo.cell? ⟨g, 1, none⟩ = some (.int .i64 V2) := cell_of_row wo _ 1 _ _ (0, 0) q0
          have k2 : wo.cell? ⟨g, 2, none⟩ = some (.slice A k c) := cell_of_row wo _ 2 _ _ (0, 0) q0
          have k3 : wo.cell? ⟨g, 3, none⟩ = some (.slice D k m) := cell_of_row wo _ 3 _ _ (0, 0) q0
          have hgo : g < wo.heap.size := by omega
          have hwl : w.heap.size < w1.heap.size := hlw1k0
          have hwo : w.heap.size < wo.heap.size := by omega
          have q3 : wo.cell? ⟨w.heap.size, 0, none⟩ = some (.int .i64 0) := (hs.out.cell (p := ⟨w.heap.size, 0, none⟩) hwl).trans (by go_simp)
          have q4 : wo.cell? ⟨w.heap.size, 1, none⟩ = some (.int .i64 0) := (hs.out.cell (p := ⟨w.heap.size, 1, none⟩) hwl).trans (by go_simp)
          have q5 : wo.cell? ⟨w.heap.size, 2, none⟩ = some (.slice none 0 0) := (hs.out.cell (p := ⟨w.heap.size, 2, none⟩) hwl).trans (by go_simp)
          have q5' : wo.cell? ⟨w.heap.size, 3, none⟩ = some (.slice none 0 0) := (hs.out.cell (p := ⟨w.heap.size, 3, none⟩) hwl).trans (by go_simp)
          have q6 : ∀ o, wo.frozen? ⟨w.heap.size, o, none⟩ = (w.alloc (.cells #[.int .i64 0, .int .i64 0, .slice none 0 0, .slice none 0 0] 33)).frozen? ⟨w.heap.size, o, none⟩ := fun o => (hs.out.frozen (p := ⟨w.heap.size, o, none⟩) hwl).trans (hfw1k0 o)
          have HM := Lib.hid (And.intro hm1 (And.intro hm2 (And.intro hm4 hm5)))
          have Sww : Since wo wo := ⟨Below.refl _ _⟩
          clear q0 hm1 hm2 hm4 hm5
          go_wp2_with fail
          refine (validReader_impl _ T _ ⟨A, c, D, m, by rw [HM.out.1, HM.out.2.1, HM.out.2.2.1, HM.out.2.2.2], RA.up (by repeat (first | exact Below.refl _ _ | exact Since.out (by assumption) | refine Below.alloc ?_ (by first | omega | (simp only [sz_alloc, sz_set, sz_drew, sz_drewN]; omega) | (simp only [sz_alloc, sz_set, sz_drew, sz_drewN] at *; omega)) _ | refine Below.setCell ?_ (by first | omega | (simp only [sz_alloc, sz_set, sz_drew, sz_drewN]; omega) | (simp only [sz_alloc, sz_set, sz_drew, sz_drewN] at *; omega)) _ | refine Below.drew ?_ | refine below_drewN_ ?_ _)), RM.up (by repeat (first | exact Below.refl _ _ | exact Since.out (by assumption) | refine Below.alloc ?_ (by first | omega | (simp only [sz_alloc, sz_set, sz_drew, sz_drewN]; omega) | (simp only [sz_alloc, sz_set, sz_drew, sz_drewN] at *; omega)) _ | refine Below.setCell ?_ (by first | omega | (simp only [sz_alloc, sz_set, sz_drew, sz_drewN]; omega) | (simp only [sz_alloc, sz_set, sz_drew, sz_drewN] at *; omega)) _ | refine Below.drew ?_ | refine below_drewN_ ?_ _))⟩ htot).mono ?_
          rintro e w7 ⟨rfl, hb7⟩
          have HBw7 : Since w w7 := ⟨below_cat (by repeat (first | exact Below.refl _ _ | exact Since.out (by assumption) | refine Below.alloc ?_ (by first | omega | (simp only [sz_alloc, sz_set, sz_drew, sz_drewN]; omega) | (simp only [sz_alloc, sz_set, sz_drew, sz_drewN] at *; omega)) _ | refine Below.setCell ?_ (by first | omega | (simp only [sz_alloc, sz_set, sz_drew, sz_drewN]; omega) | (simp only [sz_alloc, sz_set, sz_drew, sz_drewN] at *; omega)) _ | refine Below.drew ?_ | refine below_drewN_ ?_ _)) hb7 (by first | omega | (simp only [sz_alloc, sz_set, sz_drew, sz_drewN]; omega) | (simp only [sz_alloc, sz_set, sz_drew, sz_drewN] at *; omega))⟩; have hzw7 := hb7.size; (try simp only [sz_alloc, sz_set, sz_drew, sz_drewN] at hzw7); have hcw7k0 := fun o => hb7.cell (p := ⟨w.heap.size, o, none⟩) (by first | omega | (simp only [sz_alloc, sz_set, sz_drew, sz_drewN]; omega) | (simp only [sz_alloc, sz_set, sz_drew, sz_drewN] at *; omega)); have hfw7k0 := fun o => hb7.frozen (p := ⟨w.heap.size, o, none⟩) (by first | omega | (simp only [sz_alloc, sz_set, sz_drew, sz_drewN]; omega) | (simp only [sz_alloc, sz_set, sz_drew, sz_drewN] at *; omega)); have hlw7k0 : w.heap.size < w7.heap.size := (by first | omega | (simp only [sz_alloc, sz_set, sz_drew, sz_drewN]; omega) | (simp only [sz_alloc, sz_set, sz_drew, sz_drewN] at *; omega))
          have hcw7g := fun o => hb7.cell (p := ⟨g, o, none⟩) (by first | omega | (simp only [sz_alloc, sz_set, sz_drew, sz_drewN]; omega) | (simp only [sz_alloc, sz_set, sz_drew, sz_drewN] at *; omega)); have hfw7g := fun o => hb7.frozen (p := ⟨g, o, none⟩) (by first | omega | (simp only [sz_alloc, sz_set, sz_drew, sz_drewN]; omega) | (simp only [sz_alloc, sz_set, sz_drew, sz_drewN] at *; omega)); have hlw7g : g < _ := Nat.lt_of_lt_of_le (m := _) (by first | omega | (simp only [sz_alloc, sz_set, sz_drew, sz_drewN]; omega) | (simp only [sz_alloc, sz_set, sz_drew, sz_drewN] at *; omega)) hb7.size
          have S7 : Since wo w7 := ⟨below_cat (by repeat (first | exact Below.refl _ _ | exact Since.out (by assumption) | refine Below.alloc ?_ (by first | omega | (simp only [sz_alloc, sz_set, sz_drew, sz_drewN]; omega) | (simp only [sz_alloc, sz_set, sz_drew, sz_drewN] at *; omega)) _ | refine Below.setCell ?_ (by first | omega | (simp only [sz_alloc, sz_set, sz_drew, sz_drewN]; omega) | (simp only [sz_alloc, sz_set, sz_drew, sz_drewN] at *; omega)) _ | refine Below.drew ?_ | refine below_drewN_ ?_ _)) hb7 (by first | omega | (simp only [sz_alloc, sz_set, sz_drew, sz_drewN]; omega) | (simp only [sz_alloc, sz_set, sz_drew, sz_drewN] at *; omega))⟩
          by_cases hok : T.okB = true
          · rw [hok]
            have HOK := Lib.hid hok
            clear hok
            go_wp2_with fail
            refine (readerText_impl _ T _ (HP0.out.up (by repeat (first | exact Below.refl _ _ | exact Since.out (by assumption) | refine Below.alloc ?_ (by first | omega | (simp only [sz_alloc, sz_set, sz_drew, sz_drewN]; omega) | (simp only [sz_alloc, sz_set, sz_drew, sz_drewN] at *; omega)) _ | refine Below.setCell ?_ (by first | omega | (simp only [sz_alloc, sz_set, sz_drew, sz_drewN]; omega) | (simp only [sz_alloc, sz_set, sz_drew, sz_drewN] at *; omega)) _ | refine Below.drew ?_ | refine below_drewN_ ?_ _))) ⟨A, c, D, m, by rw [HM.out.1, HM.out.2.1, HM.out.2.2.1, HM.out.2.2.2], RA.up (by repeat (first | exact Below.refl _ _ | exact Since.out (by assumption) | refine Below.alloc ?_ (by first | omega | (simp only [sz_alloc, sz_set, sz_drew, sz_drewN]; omega) | (simp only [sz_alloc, sz_set, sz_drew, sz_drewN] at *; omega)) _ | refine Below.setCell ?_ (by first | omega | (simp only [sz_alloc, sz_set, sz_drew, sz_drewN]; omega) | (simp only [sz_alloc, sz_set, sz_drew, sz_drewN] at *; omega)) _ | refine Below.drew ?_ | refine below_drewN_ ?_ _)), RM.up (by repeat (first | exact Below.refl _ _ | exact Since.out (by assumption) | refine Below.alloc ?_ (by first | omega | (simp only [sz_alloc, sz_set, sz_drew, sz_drewN]; omega) | (simp only [sz_alloc, sz_set, sz_drew, sz_drewN] at *; omega)) _ | refine Below.setCell ?_ (by first | omega | (simp only [sz_alloc, sz_set, sz_drew, sz_drewN]; omega) | (simp only [sz_alloc, sz_set, sz_drew, sz_drewN] at *; omega)) _ | refine Below.drew ?_ | refine below_drewN_ ?_ _))⟩ htot).mono ?_
            rintro e w8 ⟨rfl, hb8⟩
            have HBw8 : Since w w8 := ⟨below_cat (by repeat (first | exact Below.refl _ _ | exact Since.out (by assumption) | refine Below.alloc ?_ (by first | omega | (simp only [sz_alloc, sz_set, sz_drew, sz_drewN]; omega) | (simp only [sz_alloc, sz_set, sz_drew, sz_drewN] at *; omega)) _ | refine Below.setCell ?_ (by first | omega | (simp only [sz_alloc, sz_set, sz_drew, sz_drewN]; omega) | (simp only [sz_alloc, sz_set, sz_drew, sz_drewN] at *; omega)) _ | refine Below.drew ?_ | refine below_drewN_ ?_ _)) hb8 (by first | omega | (simp only [sz_alloc, sz_set, sz_drew, sz_drewN]; omega) | (simp only [sz_alloc, sz_set, sz_drew, sz_drewN] at *; omega))⟩; have hzw8 := hb8.size; (try simp only [sz_alloc, sz_set, sz_drew, sz_drewN] at hzw8); have hcw8k0 := fun o => hb8.cell (p := ⟨w.heap.size, o, none⟩) (by first | omega | (simp only [sz_alloc, sz_set, sz_drew, sz_drewN]; omega) | (simp only [sz_alloc, sz_set, sz_drew, sz_drewN] at *; omega)); have hfw8k0 := fun o => hb8.frozen (p := ⟨w.heap.size, o, none⟩) (by first | omega | (simp only [sz_alloc, sz_set, sz_drew, sz_drewN]; omega) | (simp only [sz_alloc, sz_set, sz_drew, sz_drewN] at *; omega)); have hlw8k0 : w.heap.size < w8.heap.size := (by first | omega | (simp only [sz_alloc, sz_set, sz_drew, sz_drewN]; omega) | (simp only [sz_alloc, sz_set, sz_drew, sz_drewN] at *; omega))
            have hcw8g := fun o => hb8.cell (p := ⟨g, o, none⟩) (by first | omega | (simp only [sz_alloc, sz_set, sz_drew, sz_drewN]; omega) | (simp only [sz_alloc, sz_set, sz_drew, sz_drewN] at *; omega)); have hfw8g := fun o => hb8.frozen (p := ⟨g, o, none⟩) (by first | omega | (simp only [sz_alloc, sz_set, sz_drew, sz_drewN]; omega) | (simp only [sz_alloc, sz_set, sz_drew, sz_drewN] at *; omega)); have hlw8g : g < _ := Nat.lt_of_lt_of_le (m := _) (by first | omega | (simp only [sz_alloc, sz_set, sz_drew, sz_drewN]; omega) | (simp only [sz_alloc, sz_set, sz_drew, sz_drewN] at *; omega)) hb8.size
            have S8 : Since wo w8 := ⟨below_cat (by repeat (first | exact Below.refl _ _ | exact Since.out (by assumption) | refine Below.alloc ?_ (by first | omega | (simp only [sz_alloc, sz_set, sz_drew, sz_drewN]; omega) | (simp only [sz_alloc, sz_set, sz_drew, sz_drewN] at *; omega)) _ | refine Below.setCell ?_ (by first | omega | (simp only [sz_alloc, sz_set, sz_drew, sz_drewN]; omega) | (simp only [sz_alloc, sz_set, sz_drew, sz_drewN] at *; omega)) _ | refine Below.drew ?_ | refine below_drewN_ ?_ _)) hb8 (by first | omega | (simp only [sz_alloc, sz_set, sz_drew, sz_drewN]; omega) | (simp only [sz_alloc, sz_set, sz_drew, sz_drewN] at *; omega))⟩
            have HTX : Hid (T.textC = T.text) := Lib.hid (by unfold Rr.textC; rw [if_pos HOK.out])
            rw [HTX.out]
            obtain ⟨X, hX⟩ : ∃ X, X = T.text := ⟨_, rfl⟩
            rw [← hX]
            by_cases hx : X = l
            · have qx : (X == l) = true := lst_eq hx
              have HE := Lib.hid (show rdC l = T ∧ rdCode l = 0 by
                rw [HC.out, HD.out, HTI.out, if_pos ⟨HOK.out, hX ▸ hx⟩]
                exact ⟨rfl, rfl⟩)
              clear hX hx
              go_wp2
              have p0 : w8.cell? ⟨w.heap.size, 0, none⟩ = some (.int .i64 0) := by go_simp
              have p1 : w8.cell? ⟨w.heap.size, 1, none⟩ = some (.int .i64 0) := by go_simp
              have p2 : w8.cell? ⟨w.heap.size, 2, none⟩ = some (.slice none 0 0) := by go_simp
              have p3 : w8.cell? ⟨w.heap.size, 3, none⟩ = some (.slice none 0 0) := by go_simp
              rw [HE.out.1, HE.out.2]
              refine bodyPost_ret (v := .tuple #[.agg #[.int .i64 V1, .int .i64 V2, .slice A k c, .slice D k m], .int .i64 0]) (by simp [results, Tryd.results17, go_sem, p0, p1, p2, p3]) rfl
                ⟨_, b1 ++ b2, rfl, ⟨A, c, D, m, b1, b2, by rw [HM.out.1, HM.out.2.1, HM.out.2.2.1, HM.out.2.2.2], (o1.below S8.out (fun g hg => (f2.2 g (List.mem_append_left _ hg)).2)).only (bs' := [w.heap.size]) (by repeat (first | with_reducible exact OnlyB.refl _ _ | with_reducible refine OnlyB.setCell ?_ (by simp) _ | with_reducible refine OnlyB.alloc ?_ _ | with_reducible refine OnlyB.drew ?_ | refine OnlyB.trans ?_ (OnlyB.of_below (by assumption) _))) (fun g hg => ?_), (o2.below S8.out (fun g hg => (f2.2 g (List.mem_append_right _ hg)).2)).only (bs' := [w.heap.size]) (by repeat (first | with_reducible exact OnlyB.refl _ _ | with_reducible refine OnlyB.setCell ?_ (by simp) _ | with_reducible refine OnlyB.alloc ?_ _ | with_reducible refine OnlyB.drew ?_ | refine OnlyB.trans ?_ (OnlyB.of_below (by assumption) _))) (fun g hg => ?_), rfl⟩, (f2.low (by first | omega | (simp only [sz_alloc, sz_set, sz_drew, sz_drewN]; omega) | (simp only [sz_alloc, sz_set, sz_drew, sz_drewN] at *; omega))).more (by first | omega | (simp only [sz_alloc, sz_set, sz_drew, sz_drewN]; omega) | (simp only [sz_alloc, sz_set, sz_drew, sz_drewN] at *; omega)), (by repeat (first | exact Below.refl _ _ | exact Since.out (by assumption) | refine Below.alloc ?_ (by first | omega | (simp only [sz_alloc, sz_set, sz_drew, sz_drewN]; omega) | (simp only [sz_alloc, sz_set, sz_drew, sz_drewN] at *; omega)) _ | refine Below.setCell ?_ (by first | omega | (simp only [sz_alloc, sz_set, sz_drew, sz_drewN]; omega) | (simp only [sz_alloc, sz_set, sz_drew, sz_drewN] at *; omega)) _ | refine Below.drew ?_ | refine below_drewN_ ?_ _))⟩
              · have := f2.2 g (List.mem_append_left _ hg); simp; omega
              · have := f2.2 g (List.mem_append_right _ hg); simp; omega
            · have qx : (X == l) = false := lst_ne hx
              have HE := Lib.hid (show rdC l = ⟨0, 0, [], []⟩ ∧ rdCode l = 5 by
                rw [HC.out, HD.out, HTI.out, if_neg (fun h => hx (hX ▸ h.2))]
                exact ⟨rfl, rfl⟩)
              clear hX hx
              go_wp2
              have p0 : w8.cell? ⟨w.heap.size, 0, none⟩ = some (.int .i64 0) := by go_simp
              have p1 : w8.cell? ⟨w.heap.size, 1, none⟩ = some (.int .i64 0) := by go_simp
              have p2 : w8.cell? ⟨w.heap.size, 2, none⟩ = some (.slice none 0 0) := by go_simp
              have p3 : w8.cell? ⟨w.heap.size, 3, none⟩ = some (.slice none 0 0) := by go_simp
              rw [HE.out.1, HE.out.2]
              exact bodyPost_ret (v := .tuple #[.agg #[.int .i64 0, .int .i64 0, .slice none 0 0, .slice none 0 0], .int .i64 5]) (by simp [results, Tryd.results17, go_sem, p0, p1, p2, p3]) rfl (rr_err (by repeat (first | exact Below.refl _ _ | exact Since.out (by assumption) | refine Below.alloc ?_ (by first | omega | (simp only [sz_alloc, sz_set, sz_drew, sz_drewN]; omega) | (simp only [sz_alloc, sz_set, sz_drew, sz_drewN] at *; omega)) _ | refine Below.setCell ?_ (by first | omega | (simp only [sz_alloc, sz_set, sz_drew, sz_drewN]; omega) | (simp only [sz_alloc, sz_set, sz_drew, sz_drewN] at *; omega)) _ | refine Below.drew ?_ | refine below_drewN_ ?_ _)))
          · have hok := Bool.not_eq_true _ |>.mp hok
            have HE := Lib.hid (show rdC l = ⟨0, 0, [], []⟩ ∧ rdCode l = 5 by
              rw [HC.out, HD.out, HTI.out, if_neg (fun h => by rw [hok] at h; cases h.1)]
              exact ⟨rfl, rfl⟩)
            rw [hok]
            clear hok
            go_wp2
            have p0 : w7.cell? ⟨w.heap.size, 0, none⟩ = some (.int .i64 0) := by go_simp
            have p1 : w7.cell? ⟨w.heap.size, 1, none⟩ = some (.int .i64 0) := by go_simp
            have p2 : w7.cell? ⟨w.heap.size, 2, none⟩ = some (.slice none 0 0) := by go_simp
            have p3 : w7.cell? ⟨w.heap.size, 3, none⟩ = some (.slice none 0 0) := by go_simp
            rw [HE.out.1, HE.out.2]
            exact bodyPost_ret (v := .tuple #[.agg #[.int .i64 0, .int .i64 0, .slice none 0 0, .slice none 0 0], .int .i64 5]) (by simp [results, Tryd.results17, go_sem, p0, p1, p2, p3]) rfl (rr_err (by repeat (first | exact Below.refl _ _ | exact Since.out (by assumption) | refine Below.alloc ?_ (by first | omega | (simp only [sz_alloc, sz_set, sz_drew, sz_drewN]; omega) | (simp only [sz_alloc, sz_set, sz_drew, sz_drewN] at *; omega)) _ | refine Below.setCell ?_ (by first | omega | (simp only [sz_alloc, sz_set, sz_drew, sz_drewN]; omega) | (simp only [sz_alloc, sz_set, sz_drew, sz_drewN] at *; omega)) _ | refine Below.drew ?_ | refine below_drewN_ ?_ _)))
end Go.Proofs.YtelmooaenodfaaaDoor
