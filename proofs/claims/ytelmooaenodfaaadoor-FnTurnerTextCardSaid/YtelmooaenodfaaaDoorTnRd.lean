/-
  The program's ReadTurner. Conditions: those in each statement.
-/
import Derived.Test.YtelmooaenodfaaaDoorRdTot
import Derived.Test.YtelmooaenodfaaaDoorMvRd2
import Derived.Test.YtelmooaenodfaaaDoorTail2
import Derived.Test.YtelmooaenodfaaaDoorTnTxt3
import Derived.Deep.DeepCutAuto
import Derived.Deep.RegionHeld3
set_option linter.unusedVariables false
set_option linter.unusedSimpArgs false
set_option maxRecDepth 100000
set_option maxHeartbeats 1000000
namespace Go.Proofs.YtelmooaenodfaaaDoor
open Go.RowKit

theorem tn_err {w wo : World} {code : Int} (hb : Below w.heap.size w wo) : RetTnC ⟨0, 0, []⟩ code w (.returned (.tuple #[.agg #[.int .i64 0, .int .i64 0, .slice none 0 0], .int .i64 code])) wo :=
  ⟨_, [], rfl, ⟨none, 0, [], rfl, .inl ⟨rfl, rfl⟩, rfl⟩, ⟨List.nodup_nil, fun g hg => by simp at hg⟩, hb⟩
def rowMI (x : List UInt8) : List (Int × Int) := (splitL 32 x).tail.map mvI

set_option maxHeartbeats 8000000 in
theorem readTurner_impl (l : List UInt8) (w : World) (hE : Env w) (hl : l.length ≤ 1048576) : Calls Tryd.prog 22 #[.string (str l)] w (RetTnC (tnC l) (tnCode l) w) := by
  have hsz := str_size l
  have us : ¬ 9223372036854775807 < (str l).size := by rw [str_size]; omega
  have tl := str_list
  have HE0 := Lib.hid hE
  clear hE
  by_cases h20 : 20000 < l.length
  · have hC : tnC l = ⟨0, 0, []⟩ := by unfold tnC; rw [if_pos h20]
    have hD : tnCode l = 2 := by unfold tnCode; rw [if_pos h20]
    rw [hC, hD]
    have i1 : (20000 : Int) < (l.length : Int) := by omega
    clear hC hD h20
    go_enter Tryd.func22, Tryd.ntmps22
    go_wp2
    exact bodyPost_ret (v := .tuple #[.agg #[.int .i64 0, .int .i64 0, .slice none 0 0], .int .i64 2]) (by simp [results, Tryd.results22, go_sem]) rfl (tn_err (by repeat (first | exact Below.refl _ _ | refine Below.alloc ?_ (by first | omega | (simp only [sz_alloc, sz_set, sz_drew, sz_drewN]; omega) | (simp only [sz_alloc, sz_set, sz_drew, sz_drewN] at *; omega)) _ | refine Below.setCell ?_ (by first | omega | (simp only [sz_alloc, sz_set, sz_drew, sz_drewN]; omega) | (simp only [sz_alloc, sz_set, sz_drew, sz_drewN] at *; omega)) _ | refine Below.drew ?_ | refine below_drewN_ ?_ _)))
  · have HC : Hid (tnC l = (tnI l).getD ⟨0, 0, []⟩) := Lib.hid (by unfold tnC; rw [if_neg h20, tn_same])
    have HD : Hid (tnCode l = if (tnI l).isSome = true then 0 else 5) := Lib.hid (by unfold tnCode; rw [if_neg h20, tn_same])
    have i1 : ¬ (20000 : Int) < (l.length : Int) := by omega
    have hl2 : l.length ≤ 20000 := by omega
    obtain ⟨T, hT⟩ : ∃ T, T = tnI0 l := ⟨_, rfl⟩
    have HTI : Hid (tnI l = if T.okB = true ∧ T.text = l then some T else none) := Lib.hid (by rw [hT]; rfl)
    have htot : T.tot ≤ 1048576 := by rw [hT]; have := tnI0_tot l; omega
    have HH := Lib.hid (fun W hW => headOf_impl l W hW hl)
    have hp4 := pad4_len (hdOf (docI l))
    have ha := hd_in l 1
    have hb := hd_in l 3
    obtain ⟨a, hae⟩ : ∃ a, a = (hdOf (docI l)).getD 1 [] := ⟨_, rfl⟩
    obtain ⟨b, hbe⟩ : ∃ b, b = (hdOf (docI l)).getD 3 [] := ⟨_, rfl⟩
    have hga : (pad4 (hdOf (docI l)))[1]? = some a := by
      have := pad4_get (hdOf (docI l)) 1
      rw [List.getD_eq_getElem?_getD, List.getElem?_eq_getElem (by omega)] at this
      rw [List.getElem?_eq_getElem (by omega), hae, ← this]
      rfl
    have hgb : (pad4 (hdOf (docI l)))[3]? = some b := by
      have := pad4_get (hdOf (docI l)) 3
      rw [List.getD_eq_getElem?_getD, List.getElem?_eq_getElem (by omega)] at this
      rw [List.getElem?_eq_getElem (by omega), hbe, ← this]
      rfl
    rw [← hae] at ha
    rw [← hbe] at hb
    obtain ⟨hd, hhd⟩ : ∃ hd, hd = pad4 (hdOf (docI l)) := ⟨_, rfl⟩
    have hin : ∀ x ∈ (docI l).tail, x.length ≤ l.length := fun x hx => doc_in l x (List.mem_of_mem_tail hx)
    have hln := doc_len l
    obtain ⟨ls, hls⟩ : ∃ ls, ls = (docI l).tail := ⟨_, rfl⟩
    obtain ⟨V1, hV1⟩ : ∃ V, V = numI a := ⟨_, rfl⟩
    obtain ⟨V2, hV2⟩ : ∃ V, V = numI b := ⟨_, rfl⟩
    have hTe : T = ⟨V1, V2, ls.map rowMI⟩ := by rw [hT, hV1, hV2, hae, hbe, hls]; rfl
    have HNa := Lib.hid (fun W hW => number_impl a W hW (by omega))
    have HNb := Lib.hid (fun W hW => number_impl b W hW (by omega))
    rw [← hV1] at HNa
    rw [← hV2] at HNb
    rw [← hhd] at HH hga hgb hp4
    rw [← hls] at HH hin hln
    have hga := bs_get hga
    have hgb := bs_get hgb
    have HIN := Lib.hid hin
    clear hT hae hbe hhd hls hV1 hV2 hin h20 ha hb
    obtain ⟨n, hn⟩ : ∃ n, n = ls.length := ⟨_, rfl⟩
    obtain ⟨p, hp⟩ : ∃ p, p = hd.length := ⟨_, rfl⟩
    have HH : Hid (∀ W, Env W → Calls Tryd.prog 56 #[.string (str l), .int .i64 4] W fun e w' => ∃ A c A' c', e = .returned (.tuple #[.slice A p c, .slice A' n c']) ∧ RdS w' w'.heap.size A (hd.map Bs.mk) ∧ RdS w' w'.heap.size A' (ls.map Bs.mk) ∧ Below W.heap.size W w') := Lib.hid (by rw [hn, hp]; exact HH.out)
    rw [← hp] at hp4
    rw [← hn] at hln
    have HN := Lib.hid hn
    clear hn hp
    go_enter Tryd.func22, Tryd.ntmps22
    go_wp2_with fail
    refine (HH.out _ (HE0.out.up (by repeat (first | exact Below.refl _ _ | refine Below.alloc ?_ (by first | omega | (simp only [sz_alloc, sz_set, sz_drew, sz_drewN]; omega) | (simp only [sz_alloc, sz_set, sz_drew, sz_drewN] at *; omega)) _ | refine Below.setCell ?_ (by first | omega | (simp only [sz_alloc, sz_set, sz_drew, sz_drewN]; omega) | (simp only [sz_alloc, sz_set, sz_drew, sz_drewN] at *; omega)) _ | refine Below.drew ?_ | refine below_drewN_ ?_ _)))).mono ?_
    rintro e w1 ⟨A0, c0, A1, c1, rfl, r0, r1, hb1⟩
    have HBw1 : Since w w1 := ⟨below_cat (by repeat (first | exact Below.refl _ _ | exact Since.out (by assumption) | refine Below.alloc ?_ (by first | omega | (simp only [sz_alloc, sz_set, sz_drew, sz_drewN]; omega) | (simp only [sz_alloc, sz_set, sz_drew, sz_drewN] at *; omega)) _ | refine Below.setCell ?_ (by first | omega | (simp only [sz_alloc, sz_set, sz_drew, sz_drewN]; omega) | (simp only [sz_alloc, sz_set, sz_drew, sz_drewN] at *; omega)) _ | refine Below.drew ?_ | refine below_drewN_ ?_ _)) hb1 (by first | omega | (simp only [sz_alloc, sz_set, sz_drew, sz_drewN]; omega) | (simp only [sz_alloc, sz_set, sz_drew, sz_drewN] at *; omega))⟩; have hzw1 := hb1.size; (try simp only [sz_alloc, sz_set, sz_drew, sz_drewN] at hzw1); have hcw1k0 := fun o => hb1.cell (p := ⟨w.heap.size, o, none⟩) (by first | omega | (simp only [sz_alloc, sz_set, sz_drew, sz_drewN]; omega) | (simp only [sz_alloc, sz_set, sz_drew, sz_drewN] at *; omega)); have hfw1k0 := fun o => hb1.frozen (p := ⟨w.heap.size, o, none⟩) (by first | omega | (simp only [sz_alloc, sz_set, sz_drew, sz_drewN]; omega) | (simp only [sz_alloc, sz_set, sz_drew, sz_drewN] at *; omega)); have hlw1k0 : w.heap.size < w1.heap.size := (by first | omega | (simp only [sz_alloc, sz_set, sz_drew, sz_drewN]; omega) | (simp only [sz_alloc, sz_set, sz_drew, sz_drewN] at *; omega))
    have HQ1 : Since w1 w1 := ⟨Below.refl _ _⟩
    obtain ⟨gA, oA, rfl, hgA, ca⟩ := r0.bs hga
    obtain ⟨g', o', e', _, cb⟩ := r0.bs hgb
    cases e'
    have ip1 : (1 : Int) < (p : Int) := by omega
    have ip3 : (3 : Int) < (p : Int) := by omega
    clear r0 hga hgb
    go_wp2
    go_cut [6] (fun s6 wx => ∃ g : Nat, s6 = .pointer (some ⟨g, 0, none⟩) ∧ Hid (wx.heap[g]? = some (.cells #[.int .i64 V1, .int .i64 V2, .slice none 0 0] 40 (0, 0))) ∧ w1.heap.size ≤ g ∧ Since w1 wx)
    case first =>
      refine Held.begin (fun w' => w'.cell? ⟨gA, oA + 1, none⟩ = some (.string (str a)) ∧ w'.cell? ⟨gA, oA + 3, none⟩ = some (.string (str b))) 10 (by kernel_rfl) (by (try dsimp only); (first | (go_keep; done) | (and_intros <;> go_simp))) (fun hHeld => ?_)
      refine Held.take (i := 0) (v := ?_) (by (simp only [List.getElem?_toArray, List.getElem?_cons_succ, List.getElem?_cons_zero]); exact rfl) (by decide) (by kernel_rfl) (by kernel_rfl) (by kernel_rfl) (by kernel_rfl) (by exact fun _ _ _ h => h) (by refine Or.inl ⟨by rfl, ?_⟩; intro wS hSw; (try dsimp only at hSw); go_simp; (try with_reducible rfl)) (by assumption) ?_
      (try simp only [Act.put, List.setIfInBounds_toArray, List.set_cons_zero, List.set_cons_succ])
      refine Held.take (i := 1) (v := ?_) (by (simp only [List.getElem?_toArray, List.getElem?_cons_succ, List.getElem?_cons_zero]); exact rfl) (by decide) (by kernel_rfl) (by kernel_rfl) (by kernel_rfl) (by kernel_rfl) (by exact fun _ _ _ h => h) (by refine Or.inl ⟨by rfl, ?_⟩; intro wS hSw; (try dsimp only at hSw); go_simp; (try with_reducible rfl)) (by assumption) ?_
      (try simp only [Act.put, List.setIfInBounds_toArray, List.set_cons_zero, List.set_cons_succ])
      refine Held.take (i := 2) (v := ?_) (by (simp only [List.getElem?_toArray, List.getElem?_cons_succ, List.getElem?_cons_zero]); exact rfl) (by decide) (by kernel_rfl) (by kernel_rfl) (by kernel_rfl) (by kernel_rfl) (by exact fun _ _ _ h => h) (by refine Or.inl ⟨by rfl, ?_⟩; intro wS hSw; (try dsimp only at hSw); go_simp; (try with_reducible rfl)) (by assumption) ?_
      (try simp only [Act.put, List.setIfInBounds_toArray, List.set_cons_zero, List.set_cons_succ])
      refine Held.take (i := 4) (v := ?_) (by (simp only [List.getElem?_toArray, List.getElem?_cons_succ, List.getElem?_cons_zero]); exact rfl) (by decide) (by kernel_rfl) (by kernel_rfl) (by kernel_rfl) (by kernel_rfl) (by exact fun _ _ _ h => h) (by refine Or.inl ⟨by rfl, ?_⟩; intro wS hSw; (try dsimp only at hSw); go_simp; (try with_reducible rfl)) (by assumption) ?_
      (try simp only [Act.put, List.setIfInBounds_toArray, List.set_cons_zero, List.set_cons_succ])
      refine Held.take (i := 5) (v := ?_) (by (simp only [List.getElem?_toArray, List.getElem?_cons_succ, List.getElem?_cons_zero]); exact rfl) (by decide) (by kernel_rfl) (by kernel_rfl) (by kernel_rfl) (by kernel_rfl) (by exact fun _ _ _ h => h) (by refine Or.inl ⟨by rfl, ?_⟩; intro wS hSw; (try dsimp only at hSw); go_simp; (try with_reducible rfl)) (by assumption) ?_
      (try simp only [Act.put, List.setIfInBounds_toArray, List.set_cons_zero, List.set_cons_succ])
      refine Held.take (i := 6) (v := ?_) (by (simp only [List.getElem?_toArray, List.getElem?_cons_succ, List.getElem?_cons_zero]); exact rfl) (by decide) (by kernel_rfl) (by kernel_rfl) (by kernel_rfl) (by kernel_rfl) (by exact fun _ _ _ h => h) (by refine Or.inl ⟨by rfl, ?_⟩; intro wS hSw; (try dsimp only at hSw); go_simp; (try with_reducible rfl)) (by assumption) ?_
      (try simp only [Act.put, List.setIfInBounds_toArray, List.set_cons_zero, List.set_cons_succ])
      refine Held.two (i := 3) (j := 9) (by (simp only [List.getElem?_toArray, List.getElem?_cons_succ, List.getElem?_cons_zero]); exact rfl) (by (simp only [List.getElem?_toArray, List.getElem?_cons_succ, List.getElem?_cons_zero]); exact rfl) (by kernel_rfl) (fun K hK => ?_) (fun K hK => ?_)
      · go_simp
        refine (HNa.out _ (HE0.out.up (by repeat (first | exact Below.refl _ _ | exact Since.out (by assumption) | refine Below.alloc ?_ (by first | omega | (simp only [sz_alloc, sz_set, sz_drew, sz_drewN]; omega) | (simp only [sz_alloc, sz_set, sz_drew, sz_drewN] at *; omega)) _ | refine Below.setCell ?_ (by first | omega | (simp only [sz_alloc, sz_set, sz_drew, sz_drewN]; omega) | (simp only [sz_alloc, sz_set, sz_drew, sz_drewN] at *; omega)) _ | refine Below.drew ?_ | refine below_drewN_ ?_ _)))).mono ?_
        rintro e w2 ⟨rfl, hb2⟩
        have HQ2 : Since w1 w2 := ⟨below_cat (by repeat (first | exact Below.refl _ _ | exact Since.out (by assumption) | refine Below.alloc ?_ (by first | omega | (simp only [sz_alloc, sz_set, sz_drew, sz_drewN]; omega) | (simp only [sz_alloc, sz_set, sz_drew, sz_drewN] at *; omega)) _ | refine Below.setCell ?_ (by first | omega | (simp only [sz_alloc, sz_set, sz_drew, sz_drewN]; omega) | (simp only [sz_alloc, sz_set, sz_drew, sz_drewN] at *; omega)) _ | refine Below.drew ?_ | refine below_drewN_ ?_ _)) hb2 (by first | omega | (simp only [sz_alloc, sz_set, sz_drew, sz_drewN]; omega) | (simp only [sz_alloc, sz_set, sz_drew, sz_drewN] at *; omega))⟩
        have HBw2 : Since w w2 := ⟨below_cat (by repeat (first | exact Below.refl _ _ | exact Since.out (by assumption) | refine Below.alloc ?_ (by first | omega | (simp only [sz_alloc, sz_set, sz_drew, sz_drewN]; omega) | (simp only [sz_alloc, sz_set, sz_drew, sz_drewN] at *; omega)) _ | refine Below.setCell ?_ (by first | omega | (simp only [sz_alloc, sz_set, sz_drew, sz_drewN]; omega) | (simp only [sz_alloc, sz_set, sz_drew, sz_drewN] at *; omega)) _ | refine Below.drew ?_ | refine below_drewN_ ?_ _)) hb2 (by first | omega | (simp only [sz_alloc, sz_set, sz_drew, sz_drewN]; omega) | (simp only [sz_alloc, sz_set, sz_drew, sz_drewN] at *; omega))⟩; have hzw2 := hb2.size; (try simp only [sz_alloc, sz_set, sz_drew, sz_drewN] at hzw2); have hcw2k0 := fun o => hb2.cell (p := ⟨w.heap.size, o, none⟩) (by first | omega | (simp only [sz_alloc, sz_set, sz_drew, sz_drewN]; omega) | (simp only [sz_alloc, sz_set, sz_drew, sz_drewN] at *; omega)); have hfw2k0 := fun o => hb2.frozen (p := ⟨w.heap.size, o, none⟩) (by first | omega | (simp only [sz_alloc, sz_set, sz_drew, sz_drewN]; omega) | (simp only [sz_alloc, sz_set, sz_drew, sz_drewN] at *; omega)); have hlw2k0 : w.heap.size < w2.heap.size := (by first | omega | (simp only [sz_alloc, sz_set, sz_drew, sz_drewN]; omega) | (simp only [sz_alloc, sz_set, sz_drew, sz_drewN] at *; omega))
        have hcw2g := fun o => hb2.cell (p := ⟨gA, o, none⟩) (by first | omega | (simp only [sz_alloc, sz_set, sz_drew, sz_drewN]; omega) | (simp only [sz_alloc, sz_set, sz_drew, sz_drewN] at *; omega)); have hfw2g := fun o => hb2.frozen (p := ⟨gA, o, none⟩) (by first | omega | (simp only [sz_alloc, sz_set, sz_drew, sz_drewN]; omega) | (simp only [sz_alloc, sz_set, sz_drew, sz_drewN] at *; omega)); have hlw2g : gA < _ := Nat.lt_of_lt_of_le (m := _) (by first | omega | (simp only [sz_alloc, sz_set, sz_drew, sz_drewN]; omega) | (simp only [sz_alloc, sz_set, sz_drew, sz_drewN] at *; omega)) hb2.size
        go_wp2_with fail
        refine hK.out _ _ (by (try dsimp only); (first | (go_keep; done) | (and_intros <;> go_simp))) (fun hHeld => ?_)
        clear hK K
        (try simp only [Act.put, List.setIfInBounds_toArray, List.set_cons_zero, List.set_cons_succ])
        refine Held.two (i := 7) (j := 9) (by (simp only [List.getElem?_toArray, List.getElem?_cons_succ, List.getElem?_cons_zero]); exact rfl) (by (simp only [List.getElem?_toArray, List.getElem?_cons_succ, List.getElem?_cons_zero]); exact rfl) (by kernel_rfl) (fun K hK => ?_) (fun K hK => ?_)
        · go_simp
          refine (HNb.out _ (HE0.out.up (by repeat (first | exact Below.refl _ _ | exact Since.out (by assumption) | refine Below.alloc ?_ (by first | omega | (simp only [sz_alloc, sz_set, sz_drew, sz_drewN]; omega) | (simp only [sz_alloc, sz_set, sz_drew, sz_drewN] at *; omega)) _ | refine Below.setCell ?_ (by first | omega | (simp only [sz_alloc, sz_set, sz_drew, sz_drewN]; omega) | (simp only [sz_alloc, sz_set, sz_drew, sz_drewN] at *; omega)) _ | refine Below.drew ?_ | refine below_drewN_ ?_ _)))).mono ?_
          rintro e w3 ⟨rfl, hb3⟩
          have HQ3 : Since w1 w3 := ⟨below_cat (by repeat (first | exact Below.refl _ _ | exact Since.out (by assumption) | refine Below.alloc ?_ (by first | omega | (simp only [sz_alloc, sz_set, sz_drew, sz_drewN]; omega) | (simp only [sz_alloc, sz_set, sz_drew, sz_drewN] at *; omega)) _ | refine Below.setCell ?_ (by first | omega | (simp only [sz_alloc, sz_set, sz_drew, sz_drewN]; omega) | (simp only [sz_alloc, sz_set, sz_drew, sz_drewN] at *; omega)) _ | refine Below.drew ?_ | refine below_drewN_ ?_ _)) hb3 (by first | omega | (simp only [sz_alloc, sz_set, sz_drew, sz_drewN]; omega) | (simp only [sz_alloc, sz_set, sz_drew, sz_drewN] at *; omega))⟩
          have HBw3 : Since w w3 := ⟨below_cat (by repeat (first | exact Below.refl _ _ | exact Since.out (by assumption) | refine Below.alloc ?_ (by first | omega | (simp only [sz_alloc, sz_set, sz_drew, sz_drewN]; omega) | (simp only [sz_alloc, sz_set, sz_drew, sz_drewN] at *; omega)) _ | refine Below.setCell ?_ (by first | omega | (simp only [sz_alloc, sz_set, sz_drew, sz_drewN]; omega) | (simp only [sz_alloc, sz_set, sz_drew, sz_drewN] at *; omega)) _ | refine Below.drew ?_ | refine below_drewN_ ?_ _)) hb3 (by first | omega | (simp only [sz_alloc, sz_set, sz_drew, sz_drewN]; omega) | (simp only [sz_alloc, sz_set, sz_drew, sz_drewN] at *; omega))⟩; have hzw3 := hb3.size; (try simp only [sz_alloc, sz_set, sz_drew, sz_drewN] at hzw3); have hcw3k0 := fun o => hb3.cell (p := ⟨w.heap.size, o, none⟩) (by first | omega | (simp only [sz_alloc, sz_set, sz_drew, sz_drewN]; omega) | (simp only [sz_alloc, sz_set, sz_drew, sz_drewN] at *; omega)); have hfw3k0 := fun o => hb3.frozen (p := ⟨w.heap.size, o, none⟩) (by first | omega | (simp only [sz_alloc, sz_set, sz_drew, sz_drewN]; omega) | (simp only [sz_alloc, sz_set, sz_drew, sz_drewN] at *; omega)); have hlw3k0 : w.heap.size < w3.heap.size := (by first | omega | (simp only [sz_alloc, sz_set, sz_drew, sz_drewN]; omega) | (simp only [sz_alloc, sz_set, sz_drew, sz_drewN] at *; omega))
          have hcw3g := fun o => hb3.cell (p := ⟨gA, o, none⟩) (by first | omega | (simp only [sz_alloc, sz_set, sz_drew, sz_drewN]; omega) | (simp only [sz_alloc, sz_set, sz_drew, sz_drewN] at *; omega)); have hfw3g := fun o => hb3.frozen (p := ⟨gA, o, none⟩) (by first | omega | (simp only [sz_alloc, sz_set, sz_drew, sz_drewN]; omega) | (simp only [sz_alloc, sz_set, sz_drew, sz_drewN] at *; omega)); have hlw3g : gA < _ := Nat.lt_of_lt_of_le (m := _) (by first | omega | (simp only [sz_alloc, sz_set, sz_drew, sz_drewN]; omega) | (simp only [sz_alloc, sz_set, sz_drew, sz_drewN] at *; omega)) hb3.size
          go_wp2_with fail
          refine hK.out _ _ (by (try dsimp only); (first | (go_keep; done) | (and_intros <;> go_simp))) (fun hHeld => ?_)
          clear hK K
          (try simp only [Act.put, List.setIfInBounds_toArray, List.set_cons_zero, List.set_cons_succ])
          refine Held.take (i := 8) (v := ?_) (by (simp only [List.getElem?_toArray, List.getElem?_cons_succ, List.getElem?_cons_zero]); exact rfl) (by decide) (by kernel_rfl) (by kernel_rfl) (by kernel_rfl) (by kernel_rfl) (by exact fun _ _ _ h => h) (by refine Or.inl ⟨by rfl, ?_⟩; intro wS hSw; (try dsimp only at hSw); go_simp; (try with_reducible rfl)) (by assumption) ?_
          (try simp only [Act.put, List.setIfInBounds_toArray, List.set_cons_zero, List.set_cons_succ])
          refine Held.one (i := 9) (by (simp only [List.getElem?_toArray, List.getElem?_cons_succ, List.getElem?_cons_zero]); exact rfl) (by kernel_rfl) (fun K hK => ?_)
          go_simp
          refine hK.out _ _ (by (try dsimp only); (first | (go_keep; done) | (and_intros <;> go_simp))) (fun hHeld => ?_)
          clear hK K
          (try simp only [Act.put, List.setIfInBounds_toArray, List.set_cons_zero, List.set_cons_succ])
          refine Held.last (i := 10) (by (simp only [List.getElem?_toArray, List.getElem?_cons_succ, List.getElem?_cons_zero]); exact rfl) (by decide) (by kernel_rfl) (fun K hK => ?_)
          go_simp
          refine hK.out _ _ ?_
          clear hK K
          (try simp only [Act.put, List.setIfInBounds_toArray, List.set_cons_zero, List.set_cons_succ])
          refine Held.done (by kernel_rfl) ?_ _
          go_wp2_with fail
          go_meet
          exact ⟨_, rfl, Lib.hid (by repeat (first | (with_reducible exact new_block rfl) | ((with_reducible refine new_block ?_); (focus (simp only [sz_alloc, sz_set, sz_drew, sz_drewN]; done))) | ((with_reducible refine blk_fill3 (cur := #[.int .i64 0 , .int .i64 0 , .slice none 0 0]) ?_ ?_); rotate_left; (focus (rfl; done))) | ((with_reducible refine blk_far ?_ ?_ _); rotate_left; (focus ((try simp only [ne_eq]); omega; done))) | ((with_reducible refine alloc_block ?_ ?_); rotate_left; (focus (first | omega | (simp only [sz_alloc, sz_set, sz_drew, sz_drewN]; omega) | (simp only [sz_alloc, sz_set, sz_drew, sz_drewN] at *; omega); done))) | rw [heap_drew] | ((with_reducible refine (Below.block (by first | exact hb2 | exact hb3) _ ?_).trans ?_); (focus (first | omega | (simp only [sz_alloc, sz_set, sz_drew, sz_drewN]; omega) | (simp only [sz_alloc, sz_set, sz_drew, sz_drewN] at *; omega); done))))), (by first | omega | (simp only [sz_alloc, sz_set, sz_drew, sz_drewN]; omega) | (simp only [sz_alloc, sz_set, sz_drew, sz_drewN] at *; omega)), ⟨(by repeat (first | exact Below.refl _ _ | exact Since.out (by assumption) | refine Below.alloc ?_ (by first | omega | (simp only [sz_alloc, sz_set, sz_drew, sz_drewN]; omega) | (simp only [sz_alloc, sz_set, sz_drew, sz_drewN] at *; omega)) _ | refine Below.setCell ?_ (by first | omega | (simp only [sz_alloc, sz_set, sz_drew, sz_drewN]; omega) | (simp only [sz_alloc, sz_set, sz_drew, sz_drewN] at *; omega)) _ | refine Below.drew ?_ | refine below_drewN_ ?_ _))⟩⟩
        · go_simp
          refine hK.out _ _ (by (try dsimp only); (first | (go_keep; done) | (and_intros <;> go_simp))) (fun hHeld => ?_)
          clear hK K
          (try simp only [Act.put, List.setIfInBounds_toArray, List.set_cons_zero, List.set_cons_succ])
          refine Held.one (i := 7) (by (simp only [List.getElem?_toArray, List.getElem?_cons_succ, List.getElem?_cons_zero]); exact rfl) (by kernel_rfl) (fun K hK => ?_)
          go_simp
          refine (HNb.out _ (HE0.out.up (by repeat (first | exact Below.refl _ _ | exact Since.out (by assumption) | refine Below.alloc ?_ (by first | omega | (simp only [sz_alloc, sz_set, sz_drew, sz_drewN]; omega) | (simp only [sz_alloc, sz_set, sz_drew, sz_drewN] at *; omega)) _ | refine Below.setCell ?_ (by first | omega | (simp only [sz_alloc, sz_set, sz_drew, sz_drewN]; omega) | (simp only [sz_alloc, sz_set, sz_drew, sz_drewN] at *; omega)) _ | refine Below.drew ?_ | refine below_drewN_ ?_ _)))).mono ?_
          rintro e w3 ⟨rfl, hb3⟩
          have HQ3 : Since w1 w3 := ⟨below_cat (by repeat (first | exact Below.refl _ _ | exact Since.out (by assumption) | refine Below.alloc ?_ (by first | omega | (simp only [sz_alloc, sz_set, sz_drew, sz_drewN]; omega) | (simp only [sz_alloc, sz_set, sz_drew, sz_drewN] at *; omega)) _ | refine Below.setCell ?_ (by first | omega | (simp only [sz_alloc, sz_set, sz_drew, sz_drewN]; omega) | (simp only [sz_alloc, sz_set, sz_drew, sz_drewN] at *; omega)) _ | refine Below.drew ?_ | refine below_drewN_ ?_ _)) hb3 (by first | omega | (simp only [sz_alloc, sz_set, sz_drew, sz_drewN]; omega) | (simp only [sz_alloc, sz_set, sz_drew, sz_drewN] at *; omega))⟩
          have HBw3 : Since w w3 := ⟨below_cat (by repeat (first | exact Below.refl _ _ | exact Since.out (by assumption) | refine Below.alloc ?_ (by first | omega | (simp only [sz_alloc, sz_set, sz_drew, sz_drewN]; omega) | (simp only [sz_alloc, sz_set, sz_drew, sz_drewN] at *; omega)) _ | refine Below.setCell ?_ (by first | omega | (simp only [sz_alloc, sz_set, sz_drew, sz_drewN]; omega) | (simp only [sz_alloc, sz_set, sz_drew, sz_drewN] at *; omega)) _ | refine Below.drew ?_ | refine below_drewN_ ?_ _)) hb3 (by first | omega | (simp only [sz_alloc, sz_set, sz_drew, sz_drewN]; omega) | (simp only [sz_alloc, sz_set, sz_drew, sz_drewN] at *; omega))⟩; have hzw3 := hb3.size; (try simp only [sz_alloc, sz_set, sz_drew, sz_drewN] at hzw3); have hcw3k0 := fun o => hb3.cell (p := ⟨w.heap.size, o, none⟩) (by first | omega | (simp only [sz_alloc, sz_set, sz_drew, sz_drewN]; omega) | (simp only [sz_alloc, sz_set, sz_drew, sz_drewN] at *; omega)); have hfw3k0 := fun o => hb3.frozen (p := ⟨w.heap.size, o, none⟩) (by first | omega | (simp only [sz_alloc, sz_set, sz_drew, sz_drewN]; omega) | (simp only [sz_alloc, sz_set, sz_drew, sz_drewN] at *; omega)); have hlw3k0 : w.heap.size < w3.heap.size := (by first | omega | (simp only [sz_alloc, sz_set, sz_drew, sz_drewN]; omega) | (simp only [sz_alloc, sz_set, sz_drew, sz_drewN] at *; omega))
          have hcw3g := fun o => hb3.cell (p := ⟨gA, o, none⟩) (by first | omega | (simp only [sz_alloc, sz_set, sz_drew, sz_drewN]; omega) | (simp only [sz_alloc, sz_set, sz_drew, sz_drewN] at *; omega)); have hfw3g := fun o => hb3.frozen (p := ⟨gA, o, none⟩) (by first | omega | (simp only [sz_alloc, sz_set, sz_drew, sz_drewN]; omega) | (simp only [sz_alloc, sz_set, sz_drew, sz_drewN] at *; omega)); have hlw3g : gA < _ := Nat.lt_of_lt_of_le (m := _) (by first | omega | (simp only [sz_alloc, sz_set, sz_drew, sz_drewN]; omega) | (simp only [sz_alloc, sz_set, sz_drew, sz_drewN] at *; omega)) hb3.size
          have hcw3t := fun o => hb3.cell (p := ⟨w2.heap.size, o, none⟩) (by first | omega | (simp only [sz_alloc, sz_set, sz_drew, sz_drewN]; omega) | (simp only [sz_alloc, sz_set, sz_drew, sz_drewN] at *; omega)); have hfw3t := fun o => hb3.frozen (p := ⟨w2.heap.size, o, none⟩) (by first | omega | (simp only [sz_alloc, sz_set, sz_drew, sz_drewN]; omega) | (simp only [sz_alloc, sz_set, sz_drew, sz_drewN] at *; omega)); have hlw3t : w2.heap.size < _ := Nat.lt_of_lt_of_le (m := _) (by first | omega | (simp only [sz_alloc, sz_set, sz_drew, sz_drewN]; omega) | (simp only [sz_alloc, sz_set, sz_drew, sz_drewN] at *; omega)) hb3.size
          go_wp2_with fail
          refine hK.out _ _ (by (try dsimp only); (first | (go_keep; done) | (and_intros <;> go_simp))) (fun hHeld => ?_)
          clear hK K
          (try simp only [Act.put, List.setIfInBounds_toArray, List.set_cons_zero, List.set_cons_succ])
          refine Held.take (i := 8) (v := ?_) (by (simp only [List.getElem?_toArray, List.getElem?_cons_succ, List.getElem?_cons_zero]); exact rfl) (by decide) (by kernel_rfl) (by kernel_rfl) (by kernel_rfl) (by kernel_rfl) (by exact fun _ _ _ h => h) (by refine Or.inl ⟨by rfl, ?_⟩; intro wS hSw; (try dsimp only at hSw); go_simp; (try with_reducible rfl)) (by assumption) ?_
          (try simp only [Act.put, List.setIfInBounds_toArray, List.set_cons_zero, List.set_cons_succ])
          refine Held.last (i := 10) (by (simp only [List.getElem?_toArray, List.getElem?_cons_succ, List.getElem?_cons_zero]); exact rfl) (by decide) (by kernel_rfl) (fun K hK => ?_)
          go_simp
          refine hK.out _ _ ?_
          clear hK K
          (try simp only [Act.put, List.setIfInBounds_toArray, List.set_cons_zero, List.set_cons_succ])
          refine Held.done (by kernel_rfl) ?_ _
          go_wp2_with fail
          go_meet
          exact ⟨_, rfl, Lib.hid (by repeat (first | (with_reducible exact new_block rfl) | ((with_reducible refine new_block ?_); (focus (simp only [sz_alloc, sz_set, sz_drew, sz_drewN]; done))) | ((with_reducible refine blk_fill3 (cur := #[.int .i64 0 , .int .i64 0 , .slice none 0 0]) ?_ ?_); rotate_left; (focus (rfl; done))) | ((with_reducible refine blk_far ?_ ?_ _); rotate_left; (focus ((try simp only [ne_eq]); omega; done))) | ((with_reducible refine alloc_block ?_ ?_); rotate_left; (focus (first | omega | (simp only [sz_alloc, sz_set, sz_drew, sz_drewN]; omega) | (simp only [sz_alloc, sz_set, sz_drew, sz_drewN] at *; omega); done))) | rw [heap_drew] | ((with_reducible refine (Below.block (by first | exact hb2 | exact hb3) _ ?_).trans ?_); (focus (first | omega | (simp only [sz_alloc, sz_set, sz_drew, sz_drewN]; omega) | (simp only [sz_alloc, sz_set, sz_drew, sz_drewN] at *; omega); done))))), (by first | omega | (simp only [sz_alloc, sz_set, sz_drew, sz_drewN]; omega) | (simp only [sz_alloc, sz_set, sz_drew, sz_drewN] at *; omega)), ⟨(by repeat (first | exact Below.refl _ _ | exact Since.out (by assumption) | refine Below.alloc ?_ (by first | omega | (simp only [sz_alloc, sz_set, sz_drew, sz_drewN]; omega) | (simp only [sz_alloc, sz_set, sz_drew, sz_drewN] at *; omega)) _ | refine Below.setCell ?_ (by first | omega | (simp only [sz_alloc, sz_set, sz_drew, sz_drewN]; omega) | (simp only [sz_alloc, sz_set, sz_drew, sz_drewN] at *; omega)) _ | refine Below.drew ?_ | refine below_drewN_ ?_ _))⟩⟩
      · go_simp
        refine hK.out _ _ (by (try dsimp only); (first | (go_keep; done) | (and_intros <;> go_simp))) (fun hHeld => ?_)
        clear hK K
        (try simp only [Act.put, List.setIfInBounds_toArray, List.set_cons_zero, List.set_cons_succ])
        refine Held.one (i := 3) (by (simp only [List.getElem?_toArray, List.getElem?_cons_succ, List.getElem?_cons_zero]); exact rfl) (by kernel_rfl) (fun K hK => ?_)
        go_simp
        refine (HNa.out _ (HE0.out.up (by repeat (first | exact Below.refl _ _ | exact Since.out (by assumption) | refine Below.alloc ?_ (by first | omega | (simp only [sz_alloc, sz_set, sz_drew, sz_drewN]; omega) | (simp only [sz_alloc, sz_set, sz_drew, sz_drewN] at *; omega)) _ | refine Below.setCell ?_ (by first | omega | (simp only [sz_alloc, sz_set, sz_drew, sz_drewN]; omega) | (simp only [sz_alloc, sz_set, sz_drew, sz_drewN] at *; omega)) _ | refine Below.drew ?_ | refine below_drewN_ ?_ _)))).mono ?_
        rintro e w2 ⟨rfl, hb2⟩
        have HQ2 : Since w1 w2 := ⟨below_cat (by repeat (first | exact Below.refl _ _ | exact Since.out (by assumption) | refine Below.alloc ?_ (by first | omega | (simp only [sz_alloc, sz_set, sz_drew, sz_drewN]; omega) | (simp only [sz_alloc, sz_set, sz_drew, sz_drewN] at *; omega)) _ | refine Below.setCell ?_ (by first | omega | (simp only [sz_alloc, sz_set, sz_drew, sz_drewN]; omega) | (simp only [sz_alloc, sz_set, sz_drew, sz_drewN] at *; omega)) _ | refine Below.drew ?_ | refine below_drewN_ ?_ _)) hb2 (by first | omega | (simp only [sz_alloc, sz_set, sz_drew, sz_drewN]; omega) | (simp only [sz_alloc, sz_set, sz_drew, sz_drewN] at *; omega))⟩
        have HBw2 : Since w w2 := ⟨below_cat (by repeat (first | exact Below.refl _ _ | exact Since.out (by assumption) | refine Below.alloc ?_ (by first | omega | (simp only [sz_alloc, sz_set, sz_drew, sz_drewN]; omega) | (simp only [sz_alloc, sz_set, sz_drew, sz_drewN] at *; omega)) _ | refine Below.setCell ?_ (by first | omega | (simp only [sz_alloc, sz_set, sz_drew, sz_drewN]; omega) | (simp only [sz_alloc, sz_set, sz_drew, sz_drewN] at *; omega)) _ | refine Below.drew ?_ | refine below_drewN_ ?_ _)) hb2 (by first | omega | (simp only [sz_alloc, sz_set, sz_drew, sz_drewN]; omega) | (simp only [sz_alloc, sz_set, sz_drew, sz_drewN] at *; omega))⟩; have hzw2 := hb2.size; (try simp only [sz_alloc, sz_set, sz_drew, sz_drewN] at hzw2); have hcw2k0 := fun o => hb2.cell (p := ⟨w.heap.size, o, none⟩) (by first | omega | (simp only [sz_alloc, sz_set, sz_drew, sz_drewN]; omega) | (simp only [sz_alloc, sz_set, sz_drew, sz_drewN] at *; omega)); have hfw2k0 := fun o => hb2.frozen (p := ⟨w.heap.size, o, none⟩) (by first | omega | (simp only [sz_alloc, sz_set, sz_drew, sz_drewN]; omega) | (simp only [sz_alloc, sz_set, sz_drew, sz_drewN] at *; omega)); have hlw2k0 : w.heap.size < w2.heap.size := (by first | omega | (simp only [sz_alloc, sz_set, sz_drew, sz_drewN]; omega) | (simp only [sz_alloc, sz_set, sz_drew, sz_drewN] at *; omega))
        have hcw2g := fun o => hb2.cell (p := ⟨gA, o, none⟩) (by first | omega | (simp only [sz_alloc, sz_set, sz_drew, sz_drewN]; omega) | (simp only [sz_alloc, sz_set, sz_drew, sz_drewN] at *; omega)); have hfw2g := fun o => hb2.frozen (p := ⟨gA, o, none⟩) (by first | omega | (simp only [sz_alloc, sz_set, sz_drew, sz_drewN]; omega) | (simp only [sz_alloc, sz_set, sz_drew, sz_drewN] at *; omega)); have hlw2g : gA < _ := Nat.lt_of_lt_of_le (m := _) (by first | omega | (simp only [sz_alloc, sz_set, sz_drew, sz_drewN]; omega) | (simp only [sz_alloc, sz_set, sz_drew, sz_drewN] at *; omega)) hb2.size
        have hcw2t := fun o => hb2.cell (p := ⟨w1.heap.size, o, none⟩) (by first | omega | (simp only [sz_alloc, sz_set, sz_drew, sz_drewN]; omega) | (simp only [sz_alloc, sz_set, sz_drew, sz_drewN] at *; omega)); have hfw2t := fun o => hb2.frozen (p := ⟨w1.heap.size, o, none⟩) (by first | omega | (simp only [sz_alloc, sz_set, sz_drew, sz_drewN]; omega) | (simp only [sz_alloc, sz_set, sz_drew, sz_drewN] at *; omega)); have hlw2t : w1.heap.size < _ := Nat.lt_of_lt_of_le (m := _) (by first | omega | (simp only [sz_alloc, sz_set, sz_drew, sz_drewN]; omega) | (simp only [sz_alloc, sz_set, sz_drew, sz_drewN] at *; omega)) hb2.size
        go_wp2_with fail
        refine hK.out _ _ (by (try dsimp only); (first | (go_keep; done) | (and_intros <;> go_simp))) (fun hHeld => ?_)
        clear hK K
        (try simp only [Act.put, List.setIfInBounds_toArray, List.set_cons_zero, List.set_cons_succ])
        refine Held.one (i := 7) (by (simp only [List.getElem?_toArray, List.getElem?_cons_succ, List.getElem?_cons_zero]); exact rfl) (by kernel_rfl) (fun K hK => ?_)
        go_simp
        refine (HNb.out _ (HE0.out.up (by repeat (first | exact Below.refl _ _ | exact Since.out (by assumption) | refine Below.alloc ?_ (by first | omega | (simp only [sz_alloc, sz_set, sz_drew, sz_drewN]; omega) | (simp only [sz_alloc, sz_set, sz_drew, sz_drewN] at *; omega)) _ | refine Below.setCell ?_ (by first | omega | (simp only [sz_alloc, sz_set, sz_drew, sz_drewN]; omega) | (simp only [sz_alloc, sz_set, sz_drew, sz_drewN] at *; omega)) _ | refine Below.drew ?_ | refine below_drewN_ ?_ _)))).mono ?_
        rintro e w3 ⟨rfl, hb3⟩
        have HQ3 : Since w1 w3 := ⟨below_cat (by repeat (first | exact Below.refl _ _ | exact Since.out (by assumption) | refine Below.alloc ?_ (by first | omega | (simp only [sz_alloc, sz_set, sz_drew, sz_drewN]; omega) | (simp only [sz_alloc, sz_set, sz_drew, sz_drewN] at *; omega)) _ | refine Below.setCell ?_ (by first | omega | (simp only [sz_alloc, sz_set, sz_drew, sz_drewN]; omega) | (simp only [sz_alloc, sz_set, sz_drew, sz_drewN] at *; omega)) _ | refine Below.drew ?_ | refine below_drewN_ ?_ _)) hb3 (by first | omega | (simp only [sz_alloc, sz_set, sz_drew, sz_drewN]; omega) | (simp only [sz_alloc, sz_set, sz_drew, sz_drewN] at *; omega))⟩
        have HBw3 : Since w w3 := ⟨below_cat (by repeat (first | exact Below.refl _ _ | exact Since.out (by assumption) | refine Below.alloc ?_ (by first | omega | (simp only [sz_alloc, sz_set, sz_drew, sz_drewN]; omega) | (simp only [sz_alloc, sz_set, sz_drew, sz_drewN] at *; omega)) _ | refine Below.setCell ?_ (by first | omega | (simp only [sz_alloc, sz_set, sz_drew, sz_drewN]; omega) | (simp only [sz_alloc, sz_set, sz_drew, sz_drewN] at *; omega)) _ | refine Below.drew ?_ | refine below_drewN_ ?_ _)) hb3 (by first | omega | (simp only [sz_alloc, sz_set, sz_drew, sz_drewN]; omega) | (simp only [sz_alloc, sz_set, sz_drew, sz_drewN] at *; omega))⟩; have hzw3 := hb3.size; (try simp only [sz_alloc, sz_set, sz_drew, sz_drewN] at hzw3); have hcw3k0 := fun o => hb3.cell (p := ⟨w.heap.size, o, none⟩) (by first | omega | (simp only [sz_alloc, sz_set, sz_drew, sz_drewN]; omega) | (simp only [sz_alloc, sz_set, sz_drew, sz_drewN] at *; omega)); have hfw3k0 := fun o => hb3.frozen (p := ⟨w.heap.size, o, none⟩) (by first | omega | (simp only [sz_alloc, sz_set, sz_drew, sz_drewN]; omega) | (simp only [sz_alloc, sz_set, sz_drew, sz_drewN] at *; omega)); have hlw3k0 : w.heap.size < w3.heap.size := (by first | omega | (simp only [sz_alloc, sz_set, sz_drew, sz_drewN]; omega) | (simp only [sz_alloc, sz_set, sz_drew, sz_drewN] at *; omega))
        have hcw3g := fun o => hb3.cell (p := ⟨gA, o, none⟩) (by first | omega | (simp only [sz_alloc, sz_set, sz_drew, sz_drewN]; omega) | (simp only [sz_alloc, sz_set, sz_drew, sz_drewN] at *; omega)); have hfw3g := fun o => hb3.frozen (p := ⟨gA, o, none⟩) (by first | omega | (simp only [sz_alloc, sz_set, sz_drew, sz_drewN]; omega) | (simp only [sz_alloc, sz_set, sz_drew, sz_drewN] at *; omega)); have hlw3g : gA < _ := Nat.lt_of_lt_of_le (m := _) (by first | omega | (simp only [sz_alloc, sz_set, sz_drew, sz_drewN]; omega) | (simp only [sz_alloc, sz_set, sz_drew, sz_drewN] at *; omega)) hb3.size
        have hcw3t := fun o => hb3.cell (p := ⟨w1.heap.size, o, none⟩) (by first | omega | (simp only [sz_alloc, sz_set, sz_drew, sz_drewN]; omega) | (simp only [sz_alloc, sz_set, sz_drew, sz_drewN] at *; omega)); have hfw3t := fun o => hb3.frozen (p := ⟨w1.heap.size, o, none⟩) (by first | omega | (simp only [sz_alloc, sz_set, sz_drew, sz_drewN]; omega) | (simp only [sz_alloc, sz_set, sz_drew, sz_drewN] at *; omega)); have hlw3t : w1.heap.size < _ := Nat.lt_of_lt_of_le (m := _) (by first | omega | (simp only [sz_alloc, sz_set, sz_drew, sz_drewN]; omega) | (simp only [sz_alloc, sz_set, sz_drew, sz_drewN] at *; omega)) hb3.size
        go_wp2_with fail
        refine hK.out _ _ (by (try dsimp only); (first | (go_keep; done) | (and_intros <;> go_simp))) (fun hHeld => ?_)
        clear hK K
        (try simp only [Act.put, List.setIfInBounds_toArray, List.set_cons_zero, List.set_cons_succ])
        refine Held.take (i := 8) (v := ?_) (by (simp only [List.getElem?_toArray, List.getElem?_cons_succ, List.getElem?_cons_zero]); exact rfl) (by decide) (by kernel_rfl) (by kernel_rfl) (by kernel_rfl) (by kernel_rfl) (by exact fun _ _ _ h => h) (by refine Or.inl ⟨by rfl, ?_⟩; intro wS hSw; (try dsimp only at hSw); go_simp; (try with_reducible rfl)) (by assumption) ?_
        (try simp only [Act.put, List.setIfInBounds_toArray, List.set_cons_zero, List.set_cons_succ])
        refine Held.last (i := 10) (by (simp only [List.getElem?_toArray, List.getElem?_cons_succ, List.getElem?_cons_zero]); exact rfl) (by decide) (by kernel_rfl) (fun K hK => ?_)
        go_simp
        refine hK.out _ _ ?_
        clear hK K
        (try simp only [Act.put, List.setIfInBounds_toArray, List.set_cons_zero, List.set_cons_succ])
        refine Held.done (by kernel_rfl) ?_ _
        go_wp2_with fail
        go_meet
        exact ⟨_, rfl, Lib.hid (by repeat (first | (with_reducible exact new_block rfl) | ((with_reducible refine new_block ?_); (focus (simp only [sz_alloc, sz_set, sz_drew, sz_drewN]; done))) | ((with_reducible refine blk_fill3 (cur := #[.int .i64 0 , .int .i64 0 , .slice none 0 0]) ?_ ?_); rotate_left; (focus (rfl; done))) | ((with_reducible refine blk_far ?_ ?_ _); rotate_left; (focus ((try simp only [ne_eq]); omega; done))) | ((with_reducible refine alloc_block ?_ ?_); rotate_left; (focus (first | omega | (simp only [sz_alloc, sz_set, sz_drew, sz_drewN]; omega) | (simp only [sz_alloc, sz_set, sz_drew, sz_drewN] at *; omega); done))) | rw [heap_drew] | ((with_reducible refine (Below.block (by first | exact hb2 | exact hb3) _ ?_).trans ?_); (focus (first | omega | (simp only [sz_alloc, sz_set, sz_drew, sz_drewN]; omega) | (simp only [sz_alloc, sz_set, sz_drew, sz_drewN] at *; omega); done))))), (by first | omega | (simp only [sz_alloc, sz_set, sz_drew, sz_drewN]; omega) | (simp only [sz_alloc, sz_set, sz_drew, sz_drewN] at *; omega)), ⟨(by repeat (first | exact Below.refl _ _ | exact Since.out (by assumption) | refine Below.alloc ?_ (by first | omega | (simp only [sz_alloc, sz_set, sz_drew, sz_drewN]; omega) | (simp only [sz_alloc, sz_set, sz_drew, sz_drewN] at *; omega)) _ | refine Below.setCell ?_ (by first | omega | (simp only [sz_alloc, sz_set, sz_drew, sz_drewN]; omega) | (simp only [sz_alloc, sz_set, sz_drew, sz_drewN] at *; omega)) _ | refine Below.drew ?_ | refine below_drewN_ ?_ _))⟩⟩
    case rest =>
      obtain ⟨g, rfl, HG, hg1, HQ2⟩ := hcut
      obtain ⟨w2, rfl⟩ : ∃ x, x = wc := ⟨_, rfl⟩
      have hgl : g < w2.heap.size := (Array.getElem?_eq_some_iff.1 HG.out).1
      have hz2 := HQ2.out.size
      clear ca cb
      go_wp2
      go_loopw [32] (fun i wr => ∃ (k : Nat) (D : Option Addr) (m : Nat) (bs : List Nat), k ≤ n ∧ i = .int .i64 k ∧ Hid (wr.heap[g]? = some (.cells #[.int .i64 V1, .int .i64 V2, .slice D k m] 40 (0, 0))) ∧ Hid (Acc wr w2.heap.size 97 D k m ((ls.take k).map rowMI) bs) ∧ Since w1 wr ∧ w2.heap.size ≤ wr.heap.size) (fun i _ => n - (intOf i).toNat)
      case atStart => exact ⟨0, none, 0, [], Nat.zero_le _, rfl, HG, Lib.hid (Acc.nil_ _ _ _), HQ2, Nat.le_refl _⟩
      case round =>
        obtain ⟨k, D, m, bs, hk, rfl, HB, HA, hs, hzr⟩ := hrel
        obtain ⟨wo, rfl⟩ : ∃ wo, wo = wr := ⟨_, rfl⟩
        have hzo := hs.out.size
        have HSw : Since w wo := ⟨HBw1.out.trans (hs.out.mono HBw1.out.size)⟩
        by_cases hlt : k < n
        · obtain ⟨x, hx⟩ := get_some (xs := ls) (k := k) (by rw [← HN.out]; exact hlt)
          have hxl := HIN.out x (List.mem_of_getElem? hx)
          have HT : Hid ((ls.take (k + 1)).map rowMI = (ls.take k).map rowMI ++ [rowMI x]) := Lib.hid (by rw [take_snoc hx]; simp)
          obtain ⟨bl, ol, rfl, hbl, cx⟩ := (r1.below hs.out (Nat.le_refl _)).bs (bs_get hx)
          have hbl2 : bl < wo.heap.size := by omega
          have i2 : (0 : Int) ≤ (k : Int) := by omega
          have i3 : (k : Int) < (n : Int) := by omega
          have HC := Lib.hid (fun W hW => split_impl2 x 32 W hW (by omega))
          have hwl := splitL_len 32 x
          have hwne := List.length_pos_iff.2 (splitL_ne 32 x)
          have hwin : ∀ y ∈ splitL 32 x, y.length ≤ x.length := splitL_in 32 x
          obtain ⟨ws, hws⟩ : ∃ ws, ws = splitL 32 x := ⟨_, rfl⟩
          have HR : Hid (rowMI x = ws.tail.map mvI) := Lib.hid (by rw [hws]; rfl)
          rw [← hws] at HC hwl hwne hwin
          obtain ⟨q, hq⟩ : ∃ q, ws.length = q + 1 := ⟨ws.length - 1, by omega⟩
          rw [hq] at hwl
          have HWI := Lib.hid hwin
          have HQL := Lib.hid hq
          have hq' : ws.tail.length = q := by rw [List.length_tail, hq]; rfl
          have HQ' := Lib.hid hq'
          have HC : Hid (∀ W, Env W → Calls Tryd.prog 58 #[.string (str x), .string ⟨#[32]⟩] W fun e w' => ∃ b, e = .returned (.slice (some ⟨b, 0, none⟩) (q + 1) (q + 1)) ∧ RdS w' w'.heap.size (some ⟨b, 0, none⟩) (ws.map Bs.mk) ∧ W.heap.size ≤ b ∧ b < w'.heap.size ∧ Below W.heap.size W w') := Lib.hid (by rw [← hq]; exact HC.out)
          clear hx hws hwne hwin hq hq'
          go_wp2_with fail
          refine (HC.out _ (HE0.out.up (by repeat (first | exact Below.refl _ _ | exact Since.out (by assumption) | refine Below.alloc ?_ (by first | omega | (simp only [sz_alloc, sz_set, sz_drew, sz_drewN]; omega) | (simp only [sz_alloc, sz_set, sz_drew, sz_drewN] at *; omega)) _ | refine Below.setCell ?_ (by first | omega | (simp only [sz_alloc, sz_set, sz_drew, sz_drewN]; omega) | (simp only [sz_alloc, sz_set, sz_drew, sz_drewN] at *; omega)) _ | refine Below.drew ?_ | refine below_drewN_ ?_ _)))).mono ?_
          rintro e w3 ⟨b0, rfl, r3, hfr, hblt, hb3⟩
          obtain ⟨o3, x3, rt⟩ := words_tail r3 HQL.out
          simp only [sz_alloc] at hfr
          have hb0n : wo.heap.size < b0 := by omega
          have HS3 : Since wo w3 := ⟨below_cat (B := wo.heap.size) (by repeat (first | exact Below.refl _ _ | refine Below.alloc ?_ (by first | omega | (simp only [sz_alloc, sz_set, sz_drew, sz_drewN]; omega) | (simp only [sz_alloc, sz_set, sz_drew, sz_drewN] at *; omega)) _ | refine Below.setCell ?_ (by first | omega | (simp only [sz_alloc, sz_set, sz_drew, sz_drewN]; omega) | (simp only [sz_alloc, sz_set, sz_drew, sz_drewN] at *; omega)) _ | refine Below.drew ?_ | refine below_drewN_ ?_ _)) hb3 (by first | omega | (simp only [sz_alloc, sz_set, sz_drew, sz_drewN]; omega) | (simp only [sz_alloc, sz_set, sz_drew, sz_drewN] at *; omega))⟩
          have hz3 := hb3.size
          simp only [sz_alloc] at hz3
          have HO : Hid (w3.heap[wo.heap.size]? = some (.cells #[] 99 (0, 0))) := Lib.hid ((hb3.block _ (by simp [sz_alloc])).trans (new_block rfl))
          clear hfr r3
          go_wp2
          go_loopw [9, 41] (fun out i wi => ∃ (j : Nat) (E : Option Addr) (f : Nat), j ≤ q ∧ out = .slice E j f ∧ i = .int .i64 j ∧ Hid (Acc wi wo.heap.size 99 E j f ((ws.tail.take j).map mvI) []) ∧ Hid (wi.heap[b0]? = w3.heap[b0]?) ∧ Hid (∀ a, E = some a → a.block ≠ b0) ∧ Hid (w3.heap.size ≤ wi.heap.size) ∧ Since wo wi) (fun _ i _ => q - (intOf i).toNat)
          case atStart => exact ⟨0, _, _, Nat.zero_le _, rfl, rfl, Lib.hid (Acc.empty_ HO.out (Nat.le_refl _)), Lib.hid rfl, Lib.hid (fun a ha => by cases ha; simp; omega), Lib.hid (Nat.le_refl _), HS3⟩
          case round =>
            obtain ⟨j, E, f, hj, rfl, rfl, H2, HK, HD2, HZ, hs2⟩ := hrel
            obtain ⟨wi, rfl⟩ : ∃ wi, wi = wr := ⟨_, rfl⟩
            have hzi := hs2.out.size
            have hzi3 := HZ.out
            have HSi : Since w wi := ⟨HSw.out.trans (hs2.out.mono HSw.out.size)⟩
            by_cases hlt2 : j < q
            · obtain ⟨y, hy⟩ := get_some (xs := ws.tail) (k := j) (by rw [HQ'.out]; exact hlt2)
              have hyl := HWI.out y (List.mem_of_mem_tail (List.mem_of_getElem? hy))
              obtain ⟨b', o', hbo, _, cy⟩ := rt.bs (bs_get hy)
              cases hbo
              have cy : wi.cell? ⟨b0, o3 + j, none⟩ = some (.string (str y)) := by
                rw [← cy]
                unfold World.cell?
                simp only
                rw [HK.out]
              have hbb2 : b0 < wi.heap.size := by omega
              have j2 : (0 : Int) ≤ (j : Int) := by omega
              have j3 : (j : Int) < (q : Int) := by omega
              have HM := Lib.hid (fun W hW => readMove_impl y W hW (by omega))
              obtain ⟨M1, M2, hM⟩ : ∃ M1 M2, mvI y = (M1, M2) := ⟨_, _, rfl⟩
              have HZ2 : Hid ((ws.tail.take (j + 1)).map mvI = (ws.tail.take j).map mvI ++ [(M1, M2)]) := Lib.hid (by rw [take_snoc hy]; simp [hM])
              rw [hM] at HM
              clear hy hM
              go_wp2_with fail
              refine (HM.out _ (HE0.out.up (by repeat (first | exact Below.refl _ _ | exact Since.out (by assumption) | refine Below.alloc ?_ (by first | omega | (simp only [sz_alloc, sz_set, sz_drew, sz_drewN]; omega) | (simp only [sz_alloc, sz_set, sz_drew, sz_drewN] at *; omega)) _ | refine Below.setCell ?_ (by first | omega | (simp only [sz_alloc, sz_set, sz_drew, sz_drewN]; omega) | (simp only [sz_alloc, sz_set, sz_drew, sz_drewN] at *; omega)) _ | refine Below.drew ?_ | refine below_drewN_ ?_ _)))).mono ?_
              rintro e w4 ⟨rfl, hb4⟩
              have HBi4 : Since wi w4 := ⟨hb4⟩
              have hz4 := hb4.size
              have HBo4 : Since wo w4 := ⟨hs2.out.trans (hb4.mono hzi)⟩
              go_wp2_with (at_builtin; refine wpList_push (α := Int × Int) _ (by rfl) (.tmp 45) (.tmp 48) 97 (by rfl) wo.heap.size 99 (.agg #[.int .i64 0, .int .i64 0]) 16 Tryd.underlying97 infoMove rfl E j f _ [] (by rfl) (H2.out.below (C := wi.heap.size) (by repeat (first | exact Below.refl _ _ | exact Since.out (by assumption) | refine Below.alloc ?_ (by first | omega | (simp only [sz_alloc, sz_set, sz_drew, sz_drewN]; omega) | (simp only [sz_alloc, sz_set, sz_drew, sz_drewN] at *; omega)) _ | refine Below.setCell ?_ (by first | omega | (simp only [sz_alloc, sz_set, sz_drew, sz_drewN]; omega) | (simp only [sz_alloc, sz_set, sz_drew, sz_drewN] at *; omega)) _ | refine Below.drew ?_ | refine below_drewN_ ?_ _)) (Nat.le_refl _)) w4.heap.size 1 (by rfl) (M1, M2) [.int .i64 M1, .int .i64 M2] [] ⟨rfl, rfl⟩ (new_cells (by first | rfl | simp [sz_set])) (fun u hu => by (simp at hu; rcases hu with rfl | rfl <;> rfl)) ⟨List.nodup_nil, fun g hg => by simp at hg⟩ (fun g hg => by simp at hg) (by omega) (by omega) (by first | omega | (simp only [sz_alloc, sz_set, sz_drew, sz_drewN]; omega) | (simp only [sz_alloc, sz_set, sz_drew, sz_drewN] at *; omega)) ?_
                           intro E2 d2 w5 hacc hgr hnew
                           have HS5 : Since wo w5 := ⟨Acc.since (H2.out.below (C := wi.heap.size) (by repeat (first | exact Below.refl _ _ | exact Since.out (by assumption) | refine Below.alloc ?_ (by first | omega | (simp only [sz_alloc, sz_set, sz_drew, sz_drewN]; omega) | (simp only [sz_alloc, sz_set, sz_drew, sz_drewN] at *; omega)) _ | refine Below.setCell ?_ (by first | omega | (simp only [sz_alloc, sz_set, sz_drew, sz_drewN]; omega) | (simp only [sz_alloc, sz_set, sz_drew, sz_drewN] at *; omega)) _ | refine Below.drew ?_ | refine below_drewN_ ?_ _)) (Nat.le_refl _)) hgr (by repeat (first | exact Below.refl _ _ | exact Since.out (by assumption) | refine Below.alloc ?_ (by first | omega | (simp only [sz_alloc, sz_set, sz_drew, sz_drewN]; omega) | (simp only [sz_alloc, sz_set, sz_drew, sz_drewN] at *; omega)) _ | refine Below.setCell ?_ (by first | omega | (simp only [sz_alloc, sz_set, sz_drew, sz_drewN]; omega) | (simp only [sz_alloc, sz_set, sz_drew, sz_drewN] at *; omega)) _ | refine Below.drew ?_ | refine below_drewN_ ?_ _)) (Nat.le_refl _) (by first | omega | (simp only [sz_alloc, sz_set, sz_drew, sz_drewN]; omega) | (simp only [sz_alloc, sz_set, sz_drew, sz_drewN] at *; omega))⟩
                           have HA5 := Lib.hid hacc
                           have HK5 : Hid (w5.heap[b0]? = w3.heap[b0]?) := Lib.hid ((grown_block hgr (k := b0) (by first | omega | (simp only [sz_alloc, sz_set, sz_drew, sz_drewN]; omega) | (simp only [sz_alloc, sz_set, sz_drew, sz_drewN] at *; omega)) HD2.out).trans (Eq.trans (Below.block (B := wi.heap.size) (by repeat (first | exact Below.refl _ _ | exact Since.out (by assumption) | refine Below.alloc ?_ (by first | omega | (simp only [sz_alloc, sz_set, sz_drew, sz_drewN]; omega) | (simp only [sz_alloc, sz_set, sz_drew, sz_drewN] at *; omega)) _ | refine Below.setCell ?_ (by first | omega | (simp only [sz_alloc, sz_set, sz_drew, sz_drewN]; omega) | (simp only [sz_alloc, sz_set, sz_drew, sz_drewN] at *; omega)) _ | refine Below.drew ?_ | refine below_drewN_ ?_ _)) _ hbb2) HK.out))
                           have HD5 : Hid (∀ a, E2 = some a → a.block ≠ b0) := Lib.hid (fun a ha => by rcases hnew a ha with h | h; exact HD2.out a h; intro e; rw [e] at h; have h2 : wi.heap.size ≤ b0 := Nat.le_trans (Below.size (B := wi.heap.size) (by repeat (first | exact Below.refl _ _ | exact Since.out (by assumption) | refine Below.alloc ?_ (by first | omega | (simp only [sz_alloc, sz_set, sz_drew, sz_drewN]; omega) | (simp only [sz_alloc, sz_set, sz_drew, sz_drewN] at *; omega)) _ | refine Below.setCell ?_ (by first | omega | (simp only [sz_alloc, sz_set, sz_drew, sz_drewN]; omega) | (simp only [sz_alloc, sz_set, sz_drew, sz_drewN] at *; omega)) _ | refine Below.drew ?_ | refine below_drewN_ ?_ _))) h; omega)
                           have HZ5 : Hid (w3.heap.size ≤ w5.heap.size) := Lib.hid (Nat.le_trans (Nat.le_trans hzi3 (by first | omega | (simp only [sz_alloc, sz_set, sz_drew, sz_drewN]; omega) | (simp only [sz_alloc, sz_set, sz_drew, sz_drewN] at *; omega))) hgr.size)
                           clear hacc hgr hnew)
              go_roundw
              case rel => exact ⟨j + 1, E2, d2, by omega, by first | rfl | simp, by go_num, Lib.hid (by rw [HZ2.out]; exact HA5.out), HK5, HD5, HZ5, HS5⟩
              case measure => simp [intOf]; omega
            · obtain rfl : j = q := by omega
              have hrow := H2.out
              rw [List.take_of_length_le (by rw [HQ'.out]; exact Nat.le_refl _)] at hrow
              have q0 : wi.heap[g]? = some (.cells #[.int .i64 V1, .int .i64 V2, .slice D k m] 40 (0, 0)) := (hs2.out.block _ (by omega)).trans HB.out
              have k2 : wi.cell? ⟨g, 2, none⟩ = some (.slice D k m) := cell_of_row wi _ 2 _ _ (0, 0) q0
              have hgi : g < wi.heap.size := by omega
              have HSi1 : Since w1 wi := ⟨hs.out.trans (hs2.out.mono hzo)⟩
              have Q0 := Lib.hid q0
              have HROW := Lib.hid hrow
              clear q0 hrow
              go_wp2_with (obtain ⟨b2, hy, hf⟩ := (HROW.out.alloc (.cells #[.slice E j f] 97)).row (by omega)
                           at_builtin; refine wpList_push (α := List (Int × Int)) _ rfl (.tmp 52) (.tmp 54) 38 rfl w2.heap.size 97 (.slice none 0 0) 24 Tryd.underlying38 infoMoveSS rfl D k m _ bs rfl (HA.out.below (C := wo.heap.size) (by repeat (first | exact Below.refl _ _ | exact Since.out (by assumption) | refine Below.alloc ?_ (by first | omega | (simp only [sz_alloc, sz_set, sz_drew, sz_drewN]; omega) | (simp only [sz_alloc, sz_set, sz_drew, sz_drewN] at *; omega)) _ | refine Below.setCell ?_ (by first | omega | (simp only [sz_alloc, sz_set, sz_drew, sz_drewN]; omega) | (simp only [sz_alloc, sz_set, sz_drew, sz_drewN] at *; omega)) _ | refine Below.drew ?_ | refine below_drewN_ ?_ _)) (Nat.le_refl _)) wi.heap.size 1 rfl (ws.tail.map mvI) [.slice E j f] b2 hy (new_cells (by first | rfl | simp [sz_set])) (fun u hu => by (simp at hu; subst hu; rfl)) ⟨hf.1, fun g hg => ⟨by have := (hf.2 g hg).1; omega, (hf.2 g hg).2⟩⟩ (HA.out.apart hf (Nat.le_refl _)) (by omega) (by omega) (by first | omega | (simp only [sz_alloc, sz_set, sz_drew, sz_drewN]; omega) | (simp only [sz_alloc, sz_set, sz_drew, sz_drewN] at *; omega)) ?_
                           intro D1 d1 w6 hacc hgr hnew
                           have HS6 : Since w1 w6 := ⟨Acc.since (HA.out.below (C := wo.heap.size) (by repeat (first | exact Below.refl _ _ | exact Since.out (by assumption) | refine Below.alloc ?_ (by first | omega | (simp only [sz_alloc, sz_set, sz_drew, sz_drewN]; omega) | (simp only [sz_alloc, sz_set, sz_drew, sz_drewN] at *; omega)) _ | refine Below.setCell ?_ (by first | omega | (simp only [sz_alloc, sz_set, sz_drew, sz_drewN]; omega) | (simp only [sz_alloc, sz_set, sz_drew, sz_drewN] at *; omega)) _ | refine Below.drew ?_ | refine below_drewN_ ?_ _)) (Nat.le_refl _)) hgr (by repeat (first | exact Below.refl _ _ | exact Since.out (by assumption) | refine Below.alloc ?_ (by first | omega | (simp only [sz_alloc, sz_set, sz_drew, sz_drewN]; omega) | (simp only [sz_alloc, sz_set, sz_drew, sz_drewN] at *; omega)) _ | refine Below.setCell ?_ (by first | omega | (simp only [sz_alloc, sz_set, sz_drew, sz_drewN]; omega) | (simp only [sz_alloc, sz_set, sz_drew, sz_drewN] at *; omega)) _ | refine Below.drew ?_ | refine below_drewN_ ?_ _)) hz2 (by first | omega | (simp only [sz_alloc, sz_set, sz_drew, sz_drewN]; omega) | (simp only [sz_alloc, sz_set, sz_drew, sz_drewN] at *; omega))⟩
                           have hB1 := (HA.out.below (w' := wi.alloc (.cells #[.slice E j f] 97)) (C := wo.heap.size) (by repeat (first | exact Below.refl _ _ | exact Since.out (by assumption) | refine Below.alloc ?_ (by first | omega | (simp only [sz_alloc, sz_set, sz_drew, sz_drewN]; omega) | (simp only [sz_alloc, sz_set, sz_drew, sz_drewN] at *; omega)) _ | refine Below.setCell ?_ (by first | omega | (simp only [sz_alloc, sz_set, sz_drew, sz_drewN]; omega) | (simp only [sz_alloc, sz_set, sz_drew, sz_drewN] at *; omega)) _ | refine Below.drew ?_ | refine below_drewN_ ?_ _)) (Nat.le_refl _)).box hgr (alloc_block Q0.out hgi) hgl
                           have f6 : w6.frozen? ⟨g, 2, none⟩ = false := blk_free hB1
                           have k6 : w6.cell? ⟨g, 2, none⟩ = some (.slice D k m) := cell_of_row w6 _ 2 _ _ (0, 0) hB1
                           have hg6 : g < w6.heap.size := (Array.getElem?_eq_some_iff.1 hB1).1
                           have hz6 : w2.heap.size ≤ w6.heap.size := Nat.le_trans (Nat.le_trans hzr (Nat.le_trans hzi (by first | omega | (simp only [sz_alloc, sz_set, sz_drew, sz_drewN]; omega) | (simp only [sz_alloc, sz_set, sz_drew, sz_drewN] at *; omega)))) hgr.size
                           have HB1 := Lib.hid hB1
                           have HA6 := Lib.hid hacc
                           clear hacc hgr hnew hy hf hB1)
              go_roundw
              case rel =>
                refine ⟨k + 1, D1, d1, bs ++ b2, by omega, by go_num, Lib.hid (blk_set HB1.out _), Lib.hid ?_, ⟨HS6.out.setCell hg1 _⟩, (by first | omega | (simp only [sz_alloc, sz_set, sz_drew, sz_drewN]; omega) | (simp only [sz_alloc, sz_set, sz_drew, sz_drewN] at *; omega))⟩
                rw [HT.out, HR.out]
                exact HA6.out.setCell (fun a ha => by have := HA6.out.lt a ha; simp; omega) (fun hm => by have := (HA6.out.fresh.2 _ hm).1; simp at this; omega) _
              case measure => simp [intOf]; omega
        · obtain rfl : k = n := by omega
          have hA := HA.out
          rw [List.take_of_length_le (by rw [← HN.out]; exact Nat.le_refl _)] at hA
          have hm1 : T.letters = V1 := by rw [hTe]
          have hm2 : T.start = V2 := by rw [hTe]
          have hm3 : T.moves = ls.map rowMI := by rw [hTe]
          have hm4 : T.moves.length = k := by rw [hm3, List.length_map, HN.out]
          rw [← hm3] at hA
          obtain ⟨b2, o2, f2, -⟩ := hA.own
          have RM : RdS wo wo.heap.size D T.moves := hA.rd
          have HTe := Lib.hid hTe
          clear hm3 hA hTe
          have q0 := HB.out
          have k0 : wo.cell? ⟨g, 0, none⟩ = some (.int .i64 V1) := cell_of_row wo _ 0 _ _ (0, 0) q0
          have k1 : wo.cell? ⟨g, 1, none⟩ = some (.int .i64 V2) := cell_of_row wo _ 1 _ _ (0, 0) q0
          have k2 : wo.cell? ⟨g, 2, none⟩ = some (.slice D k m) := cell_of_row wo _ 2 _ _ (0, 0) q0
          have hgo : g < wo.heap.size := by omega
          have hwl : w.heap.size < w1.heap.size := hlw1k0
          have hwo : w.heap.size < wo.heap.size := by omega
          have q3 : wo.cell? ⟨w.heap.size, 0, none⟩ = some (.int .i64 0) := (hs.out.cell (p := ⟨w.heap.size, 0, none⟩) hwl).trans (by go_simp)
          have q4 : wo.cell? ⟨w.heap.size, 1, none⟩ = some (.int .i64 0) := (hs.out.cell (p := ⟨w.heap.size, 1, none⟩) hwl).trans (by go_simp)
          have q5 : wo.cell? ⟨w.heap.size, 2, none⟩ = some (.slice none 0 0) := (hs.out.cell (p := ⟨w.heap.size, 2, none⟩) hwl).trans (by go_simp)
          have q6 : ∀ o, wo.frozen? ⟨w.heap.size, o, none⟩ = (w.alloc (.cells #[.int .i64 0, .int .i64 0, .slice none 0 0] 40)).frozen? ⟨w.heap.size, o, none⟩ := fun o => (hs.out.frozen (p := ⟨w.heap.size, o, none⟩) hwl).trans (hfw1k0 o)
          have HM := Lib.hid (And.intro hm1 (And.intro hm2 hm4))
          have Sww : Since wo wo := ⟨Below.refl _ _⟩
          clear q0 hm1 hm2 hm4
          go_wp2_with fail
          refine (validTurner_impl _ T _ ⟨D, m, by rw [HM.out.1, HM.out.2.1, HM.out.2.2], RM.up (by repeat (first | exact Below.refl _ _ | exact Since.out (by assumption) | refine Below.alloc ?_ (by first | omega | (simp only [sz_alloc, sz_set, sz_drew, sz_drewN]; omega) | (simp only [sz_alloc, sz_set, sz_drew, sz_drewN] at *; omega)) _ | refine Below.setCell ?_ (by first | omega | (simp only [sz_alloc, sz_set, sz_drew, sz_drewN]; omega) | (simp only [sz_alloc, sz_set, sz_drew, sz_drewN] at *; omega)) _ | refine Below.drew ?_ | refine below_drewN_ ?_ _))⟩ htot).mono ?_
          rintro e w7 ⟨rfl, hb7⟩
          have HBw7 : Since w w7 := ⟨below_cat (by repeat (first | exact Below.refl _ _ | exact Since.out (by assumption) | refine Below.alloc ?_ (by first | omega | (simp only [sz_alloc, sz_set, sz_drew, sz_drewN]; omega) | (simp only [sz_alloc, sz_set, sz_drew, sz_drewN] at *; omega)) _ | refine Below.setCell ?_ (by first | omega | (simp only [sz_alloc, sz_set, sz_drew, sz_drewN]; omega) | (simp only [sz_alloc, sz_set, sz_drew, sz_drewN] at *; omega)) _ | refine Below.drew ?_ | refine below_drewN_ ?_ _)) hb7 (by first | omega | (simp only [sz_alloc, sz_set, sz_drew, sz_drewN]; omega) | (simp only [sz_alloc, sz_set, sz_drew, sz_drewN] at *; omega))⟩; have hzw7 := hb7.size; (try simp only [sz_alloc, sz_set, sz_drew, sz_drewN] at hzw7); have hcw7k0 := fun o => hb7.cell (p := ⟨w.heap.size, o, none⟩) (by first | omega | (simp only [sz_alloc, sz_set, sz_drew, sz_drewN]; omega) | (simp only [sz_alloc, sz_set, sz_drew, sz_drewN] at *; omega)); have hfw7k0 := fun o => hb7.frozen (p := ⟨w.heap.size, o, none⟩) (by first | omega | (simp only [sz_alloc, sz_set, sz_drew, sz_drewN]; omega) | (simp only [sz_alloc, sz_set, sz_drew, sz_drewN] at *; omega)); have hlw7k0 : w.heap.size < w7.heap.size := (by first | omega | (simp only [sz_alloc, sz_set, sz_drew, sz_drewN]; omega) | (simp only [sz_alloc, sz_set, sz_drew, sz_drewN] at *; omega))
          have hcw7g := fun o => hb7.cell (p := ⟨g, o, none⟩) (by first | omega | (simp only [sz_alloc, sz_set, sz_drew, sz_drewN]; omega) | (simp only [sz_alloc, sz_set, sz_drew, sz_drewN] at *; omega)); have hfw7g := fun o => hb7.frozen (p := ⟨g, o, none⟩) (by first | omega | (simp only [sz_alloc, sz_set, sz_drew, sz_drewN]; omega) | (simp only [sz_alloc, sz_set, sz_drew, sz_drewN] at *; omega)); have hlw7g : g < _ := Nat.lt_of_lt_of_le (m := _) (by first | omega | (simp only [sz_alloc, sz_set, sz_drew, sz_drewN]; omega) | (simp only [sz_alloc, sz_set, sz_drew, sz_drewN] at *; omega)) hb7.size
          have S7 : Since wo w7 := ⟨below_cat (by repeat (first | exact Below.refl _ _ | exact Since.out (by assumption) | refine Below.alloc ?_ (by first | omega | (simp only [sz_alloc, sz_set, sz_drew, sz_drewN]; omega) | (simp only [sz_alloc, sz_set, sz_drew, sz_drewN] at *; omega)) _ | refine Below.setCell ?_ (by first | omega | (simp only [sz_alloc, sz_set, sz_drew, sz_drewN]; omega) | (simp only [sz_alloc, sz_set, sz_drew, sz_drewN] at *; omega)) _ | refine Below.drew ?_ | refine below_drewN_ ?_ _)) hb7 (by first | omega | (simp only [sz_alloc, sz_set, sz_drew, sz_drewN]; omega) | (simp only [sz_alloc, sz_set, sz_drew, sz_drewN] at *; omega))⟩
          by_cases hok : T.okB = true
          · rw [hok]
            have HOK := Lib.hid hok
            clear hok
            go_wp2_with fail
            refine (turnerText_impl _ T _ ⟨D, m, by rw [HM.out.1, HM.out.2.1, HM.out.2.2], RM.up (by repeat (first | exact Below.refl _ _ | exact Since.out (by assumption) | refine Below.alloc ?_ (by first | omega | (simp only [sz_alloc, sz_set, sz_drew, sz_drewN]; omega) | (simp only [sz_alloc, sz_set, sz_drew, sz_drewN] at *; omega)) _ | refine Below.setCell ?_ (by first | omega | (simp only [sz_alloc, sz_set, sz_drew, sz_drewN]; omega) | (simp only [sz_alloc, sz_set, sz_drew, sz_drewN] at *; omega)) _ | refine Below.drew ?_ | refine below_drewN_ ?_ _))⟩ htot).mono ?_
            rintro e w8 ⟨rfl, hb8⟩
            have HBw8 : Since w w8 := ⟨below_cat (by repeat (first | exact Below.refl _ _ | exact Since.out (by assumption) | refine Below.alloc ?_ (by first | omega | (simp only [sz_alloc, sz_set, sz_drew, sz_drewN]; omega) | (simp only [sz_alloc, sz_set, sz_drew, sz_drewN] at *; omega)) _ | refine Below.setCell ?_ (by first | omega | (simp only [sz_alloc, sz_set, sz_drew, sz_drewN]; omega) | (simp only [sz_alloc, sz_set, sz_drew, sz_drewN] at *; omega)) _ | refine Below.drew ?_ | refine below_drewN_ ?_ _)) hb8 (by first | omega | (simp only [sz_alloc, sz_set, sz_drew, sz_drewN]; omega) | (simp only [sz_alloc, sz_set, sz_drew, sz_drewN] at *; omega))⟩; have hzw8 := hb8.size; (try simp only [sz_alloc, sz_set, sz_drew, sz_drewN] at hzw8); have hcw8k0 := fun o => hb8.cell (p := ⟨w.heap.size, o, none⟩) (by first | omega | (simp only [sz_alloc, sz_set, sz_drew, sz_drewN]; omega) | (simp only [sz_alloc, sz_set, sz_drew, sz_drewN] at *; omega)); have hfw8k0 := fun o => hb8.frozen (p := ⟨w.heap.size, o, none⟩) (by first | omega | (simp only [sz_alloc, sz_set, sz_drew, sz_drewN]; omega) | (simp only [sz_alloc, sz_set, sz_drew, sz_drewN] at *; omega)); have hlw8k0 : w.heap.size < w8.heap.size := (by first | omega | (simp only [sz_alloc, sz_set, sz_drew, sz_drewN]; omega) | (simp only [sz_alloc, sz_set, sz_drew, sz_drewN] at *; omega))
            have hcw8g := fun o => hb8.cell (p := ⟨g, o, none⟩) (by first | omega | (simp only [sz_alloc, sz_set, sz_drew, sz_drewN]; omega) | (simp only [sz_alloc, sz_set, sz_drew, sz_drewN] at *; omega)); have hfw8g := fun o => hb8.frozen (p := ⟨g, o, none⟩) (by first | omega | (simp only [sz_alloc, sz_set, sz_drew, sz_drewN]; omega) | (simp only [sz_alloc, sz_set, sz_drew, sz_drewN] at *; omega)); have hlw8g : g < _ := Nat.lt_of_lt_of_le (m := _) (by first | omega | (simp only [sz_alloc, sz_set, sz_drew, sz_drewN]; omega) | (simp only [sz_alloc, sz_set, sz_drew, sz_drewN] at *; omega)) hb8.size
            have S8 : Since wo w8 := ⟨below_cat (by repeat (first | exact Below.refl _ _ | exact Since.out (by assumption) | refine Below.alloc ?_ (by first | omega | (simp only [sz_alloc, sz_set, sz_drew, sz_drewN]; omega) | (simp only [sz_alloc, sz_set, sz_drew, sz_drewN] at *; omega)) _ | refine Below.setCell ?_ (by first | omega | (simp only [sz_alloc, sz_set, sz_drew, sz_drewN]; omega) | (simp only [sz_alloc, sz_set, sz_drew, sz_drewN] at *; omega)) _ | refine Below.drew ?_ | refine below_drewN_ ?_ _)) hb8 (by first | omega | (simp only [sz_alloc, sz_set, sz_drew, sz_drewN]; omega) | (simp only [sz_alloc, sz_set, sz_drew, sz_drewN] at *; omega))⟩
            have HTX : Hid (T.textC = T.text) := Lib.hid (by unfold Tn.textC; rw [if_pos HOK.out])
            rw [HTX.out]
            obtain ⟨X, hX⟩ : ∃ X, X = T.text := ⟨_, rfl⟩
            rw [← hX]
            by_cases hx : X = l
            · have qx : (X == l) = true := lst_eq hx
              have HE := Lib.hid (show tnC l = T ∧ tnCode l = 0 by
                rw [HC.out, HD.out, HTI.out, if_pos ⟨HOK.out, hX ▸ hx⟩]
                exact ⟨rfl, rfl⟩)
              clear hX hx
              go_wp2
              have p0 : w8.cell? ⟨w.heap.size, 0, none⟩ = some (.int .i64 0) := by go_simp
              have p1 : w8.cell? ⟨w.heap.size, 1, none⟩ = some (.int .i64 0) := by go_simp
              have p2 : w8.cell? ⟨w.heap.size, 2, none⟩ = some (.slice none 0 0) := by go_simp
              rw [HE.out.1, HE.out.2]
              refine bodyPost_ret (v := .tuple #[.agg #[.int .i64 V1, .int .i64 V2, .slice D k m], .int .i64 0]) (by simp [results, Tryd.results22, go_sem, p0, p1, p2]) rfl
                ⟨_, b2, rfl, ⟨D, m, b2, by rw [HM.out.1, HM.out.2.1, HM.out.2.2], (o2.below S8.out (fun g hg => (f2.2 g hg).2)).only (bs' := [w.heap.size]) (by repeat (first | with_reducible exact OnlyB.refl _ _ | with_reducible refine OnlyB.setCell ?_ (by simp) _ | with_reducible refine OnlyB.alloc ?_ _ | with_reducible refine OnlyB.drew ?_ | refine OnlyB.trans ?_ (OnlyB.of_below (by assumption) _))) (fun g hg => ?_), rfl⟩, (f2.low (by first | omega | (simp only [sz_alloc, sz_set, sz_drew, sz_drewN]; omega) | (simp only [sz_alloc, sz_set, sz_drew, sz_drewN] at *; omega))).more (by first | omega | (simp only [sz_alloc, sz_set, sz_drew, sz_drewN]; omega) | (simp only [sz_alloc, sz_set, sz_drew, sz_drewN] at *; omega)), (by repeat (first | exact Below.refl _ _ | exact Since.out (by assumption) | refine Below.alloc ?_ (by first | omega | (simp only [sz_alloc, sz_set, sz_drew, sz_drewN]; omega) | (simp only [sz_alloc, sz_set, sz_drew, sz_drewN] at *; omega)) _ | refine Below.setCell ?_ (by first | omega | (simp only [sz_alloc, sz_set, sz_drew, sz_drewN]; omega) | (simp only [sz_alloc, sz_set, sz_drew, sz_drewN] at *; omega)) _ | refine Below.drew ?_ | refine below_drewN_ ?_ _))⟩
              have := f2.2 g hg; simp; omega
            · have qx : (X == l) = false := lst_ne hx
              have HE := Lib.hid (show tnC l = ⟨0, 0, []⟩ ∧ tnCode l = 5 by
                rw [HC.out, HD.out, HTI.out, if_neg (fun h => hx (hX ▸ h.2))]
                exact ⟨rfl, rfl⟩)
              clear hX hx
              go_wp2
              have p0 : w8.cell? ⟨w.heap.size, 0, none⟩ = some (.int .i64 0) := by go_simp
              have p1 : w8.cell? ⟨w.heap.size, 1, none⟩ = some (.int .i64 0) := by go_simp
              have p2 : w8.cell? ⟨w.heap.size, 2, none⟩ = some (.slice none 0 0) := by go_simp
              rw [HE.out.1, HE.out.2]
              exact bodyPost_ret (v := .tuple #[.agg #[.int .i64 0, .int .i64 0, .slice none 0 0], .int .i64 5]) (by simp [results, Tryd.results22, go_sem, p0, p1, p2]) rfl (tn_err (by repeat (first | exact Below.refl _ _ | exact Since.out (by assumption) | refine Below.alloc ?_ (by first | omega | (simp only [sz_alloc, sz_set, sz_drew, sz_drewN]; omega) | (simp only [sz_alloc, sz_set, sz_drew, sz_drewN] at *; omega)) _ | refine Below.setCell ?_ (by first | omega | (simp only [sz_alloc, sz_set, sz_drew, sz_drewN]; omega) | (simp only [sz_alloc, sz_set, sz_drew, sz_drewN] at *; omega)) _ | refine Below.drew ?_ | refine below_drewN_ ?_ _)))
          · have hok := Bool.not_eq_true _ |>.mp hok
            have HE := Lib.hid (show tnC l = ⟨0, 0, []⟩ ∧ tnCode l = 5 by
              rw [HC.out, HD.out, HTI.out, if_neg (fun h => by rw [hok] at h; cases h.1)]
              exact ⟨rfl, rfl⟩)
            rw [hok]
            clear hok
            go_wp2
            have p0 : w7.cell? ⟨w.heap.size, 0, none⟩ = some (.int .i64 0) := by go_simp
            have p1 : w7.cell? ⟨w.heap.size, 1, none⟩ = some (.int .i64 0) := by go_simp
            have p2 : w7.cell? ⟨w.heap.size, 2, none⟩ = some (.slice none 0 0) := by go_simp
            rw [HE.out.1, HE.out.2]
            exact bodyPost_ret (v := .tuple #[.agg #[.int .i64 0, .int .i64 0, .slice none 0 0], .int .i64 5]) (by simp [results, Tryd.results22, go_sem, p0, p1, p2]) rfl (tn_err (by repeat (first | exact Below.refl _ _ | exact Since.out (by assumption) | refine Below.alloc ?_ (by first | omega | (simp only [sz_alloc, sz_set, sz_drew, sz_drewN]; omega) | (simp only [sz_alloc, sz_set, sz_drew, sz_drewN] at *; omega)) _ | refine Below.setCell ?_ (by first | omega | (simp only [sz_alloc, sz_set, sz_drew, sz_drewN]; omega) | (simp only [sz_alloc, sz_set, sz_drew, sz_drewN] at *; omega)) _ | refine Below.drew ?_ | refine below_drewN_ ?_ _)))
end Go.Proofs.YtelmooaenodfaaaDoor
