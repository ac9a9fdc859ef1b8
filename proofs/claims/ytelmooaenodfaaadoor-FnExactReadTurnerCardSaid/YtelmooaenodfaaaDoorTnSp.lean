/-
  The reference's ReadTurner. Conditions: those in each statement.
-/
import Derived.Test.YtelmooaenodfaaaDoorSpDoc
import Derived.Test.YtelmooaenodfaaaDoorTnRd
import Derived.Test.YtelmooaenodfaaaDoorMvRd
import Derived.Test.YtelmooaenodfaaaDoorTail2
import Derived.Deep.DeepCutAuto
set_option linter.unusedVariables false
set_option linter.unusedSimpArgs false
set_option maxRecDepth 100000
set_option maxHeartbeats 1000000
namespace Go.Proofs.YtelmooaenodfaaaDoor
open Go.RowKit

def rowTV (x : List UInt8) : List (Int × Int) := (splitL 32 x).tail.map mvV

set_option maxHeartbeats 8000000 in
theorem readTurner_spec (l : List UInt8) (w : World) (hl : l.length ≤ 1048576) : Calls Tryd.prog 21 #[.string (str l)] w (RetTnC (tnC l) (tnCode l) w) := by
  have hsz := str_size l
  have us : ¬ 9223372036854775807 < (str l).size := by rw [str_size]; omega
  have tl := str_list
  by_cases h20 : 20000 < l.length
  · have hC : tnC l = ⟨0, 0, []⟩ := by unfold tnC; rw [if_pos h20]
    have hD : tnCode l = 2 := by unfold tnCode; rw [if_pos h20]
    rw [hC, hD]
    have i1 : (20000 : Int) < (l.length : Int) := by omega
    clear hC hD h20
    go_enter Tryd.func21, Tryd.ntmps21
    go_wp2
    exact bodyPost_ret (v := .tuple #[.agg #[.int .i64 0, .int .i64 0, .slice none 0 0], .int .i64 2]) (by simp [results, Tryd.results21, go_sem]) rfl (tn_err (by repeat (first | exact Below.refl _ _ | refine Below.alloc ?_ (by first | omega | (simp only [sz_alloc, sz_set, sz_drew, sz_drewN]; omega) | (simp only [sz_alloc, sz_set, sz_drew, sz_drewN] at *; omega)) _ | refine Below.setCell ?_ (by first | omega | (simp only [sz_alloc, sz_set, sz_drew, sz_drewN]; omega) | (simp only [sz_alloc, sz_set, sz_drew, sz_drewN] at *; omega)) _ | refine Below.drew ?_ | refine below_drewN_ ?_ _)))
  · have i1 : ¬ (20000 : Int) < (l.length : Int) := by omega
    have hl2 : l.length ≤ 20000 := by omega
    have HS := Lib.hid (fun W => split_spec l 10 10 rfl W hl)
    have hin : ∀ x ∈ splitL 10 l, x.length ≤ l.length := splitL_in 10 l
    have hlen := splitL_len 10 l
    have hne := splitL_ne 10 l
    have H20 := Lib.hid h20
    obtain ⟨ls, hls⟩ : ∃ ls, ls = splitL 10 l := ⟨_, rfl⟩
    rw [← hls] at hin hlen hne HS
    have HLS := Lib.hid hls
    clear hls h20
    cases ls with
    | nil => exact absurd rfl hne
    | cons l0 t =>
      have h0l := hin l0 (List.mem_cons_self ..)
      have HIN := Lib.hid hin
      have HH := Lib.hid (fun W => split_spec l0 32 32 rfl W (by omega))
      have hhl := splitL_len 32 l0
      have hhne := List.length_pos_iff.2 (splitL_ne 32 l0)
      have hhin : ∀ x ∈ splitL 32 l0, x.length ≤ 1048576 := fun x hx => by have := splitL_in 32 l0 x hx; omega
      obtain ⟨hd, hhd⟩ : ∃ hd, hd = splitL 32 l0 := ⟨_, rfl⟩
      have HHD : Hid (hdOf (l0 :: t) = hd) := Lib.hid hhd.symm
      rw [← hhd] at HH hhl hhne hhin
      obtain ⟨w0, hw0⟩ := get_some hhne
      have hw0b := bs_get hw0
      have HW0 := Lib.hid hw0
      obtain ⟨p, hp⟩ : ∃ p, p = hd.tail.length := ⟨_, rfl⟩
      have hp1 : hd.length = p + 1 := by rw [hp, List.length_tail]; omega
      obtain ⟨n, hn⟩ : ∃ n, n = t.length := ⟨_, rfl⟩
      have HN := Lib.hid hn
      have HP := Lib.hid hp
      have hvl : (numsV hd.tail).length = p := by rw [hp]; unfold numsV; rw [List.length_map]
      have HVL := Lib.hid hvl
      rw [List.length_cons, ← hn] at hlen
      have HS : Hid (∀ W, Calls Tryd.prog 44 #[.string (str l), .int .u8 10] W fun e w' => ∃ A c, e = .returned (.slice A (n + 1) c) ∧ RdS w' w'.heap.size A ((l0 :: t).map Bs.mk) ∧ Below W.heap.size W w') := Lib.hid (fun W => (HS.out W).mono fun e w' ⟨A, c, h1, h2, h3, h4⟩ => ⟨A, c, by rw [hn]; exact h1, h2, h4⟩)
      have HH : Hid (∀ W, Calls Tryd.prog 44 #[.string (str l0), .int .u8 32] W fun e w' => ∃ A c, e = .returned (.slice A (p + 1) c) ∧ RdS w' w'.heap.size A (hd.map Bs.mk) ∧ Below W.heap.size W w') := Lib.hid (fun W => (HH.out W).mono fun e w' ⟨A, c, h1, h2, h3, h4⟩ => ⟨A, c, by rw [← hp1]; exact h1, h2, h4⟩)
      have HNS : Hid (∀ A c W, RdS W W.heap.size A (hd.map Bs.mk) → Calls Tryd.prog 54 #[.slice A (p + 1) c, .int .i64 1] W (RetNums hd.tail W)) := Lib.hid (fun A c W r => by rw [← hp1]; exact numbers_spec A c hd W r (by omega) (by omega) hhin)
      have HP1 := Lib.hid hp1
      have hlast : ∃ z, (l0 :: t)[n]? = some z := get_some (by rw [hn]; simp)
      obtain ⟨z, hz⟩ := hlast
      have HLZ : Hid ((l0 :: t).getLast? = some z) := Lib.hid (by rw [List.getLast?_eq_getElem?, ← hz, hn]; rfl)
      have hzb := bs_get hz
      clear hin hne hhin hhd hw0 hp hn hz hvl hp1 hhne
      go_enter Tryd.func21, Tryd.ntmps21
      go_wp2_with fail
      refine (HS.out _).mono ?_
      rintro e w1 ⟨A1, m1, rfl, r, hb1⟩
      have HBw1 : Since w w1 := ⟨below_cat (by repeat (first | exact Below.refl _ _ | exact Since.out (by assumption) | refine Below.alloc ?_ (by first | omega | (simp only [sz_alloc, sz_set, sz_drew, sz_drewN]; omega) | (simp only [sz_alloc, sz_set, sz_drew, sz_drewN] at *; omega)) _ | refine Below.setCell ?_ (by first | omega | (simp only [sz_alloc, sz_set, sz_drew, sz_drewN]; omega) | (simp only [sz_alloc, sz_set, sz_drew, sz_drewN] at *; omega)) _ | refine Below.drew ?_ | refine below_drewN_ ?_ _)) hb1 (by first | omega | (simp only [sz_alloc, sz_set, sz_drew, sz_drewN]; omega) | (simp only [sz_alloc, sz_set, sz_drew, sz_drewN] at *; omega))⟩; have hzw1 := hb1.size; (try simp only [sz_alloc, sz_set, sz_drew, sz_drewN] at hzw1); have hcw1k0 := fun o => hb1.cell (p := ⟨w.heap.size, o, none⟩) (by first | omega | (simp only [sz_alloc, sz_set, sz_drew, sz_drewN]; omega) | (simp only [sz_alloc, sz_set, sz_drew, sz_drewN] at *; omega)); have hfw1k0 := fun o => hb1.frozen (p := ⟨w.heap.size, o, none⟩) (by first | omega | (simp only [sz_alloc, sz_set, sz_drew, sz_drewN]; omega) | (simp only [sz_alloc, sz_set, sz_drew, sz_drewN] at *; omega)); have hlw1k0 : w.heap.size < w1.heap.size := (by first | omega | (simp only [sz_alloc, sz_set, sz_drew, sz_drewN]; omega) | (simp only [sz_alloc, sz_set, sz_drew, sz_drewN] at *; omega))
      obtain ⟨g1, o1, rfl, hg1, c1⟩ := r.bs (bs_get (k := 0) (x := l0) rfl)
      rw [Nat.add_zero] at c1
      obtain ⟨g', o', e', _, cz⟩ := r.bs hzb
      cases e'
      go_wp2_with fail
      refine (HH.out _).mono ?_
      rintro e w2 ⟨A2, m2, rfl, r2, hb2⟩
      have HBw2 : Since w w2 := ⟨below_cat (by repeat (first | exact Below.refl _ _ | exact Since.out (by assumption) | refine Below.alloc ?_ (by first | omega | (simp only [sz_alloc, sz_set, sz_drew, sz_drewN]; omega) | (simp only [sz_alloc, sz_set, sz_drew, sz_drewN] at *; omega)) _ | refine Below.setCell ?_ (by first | omega | (simp only [sz_alloc, sz_set, sz_drew, sz_drewN]; omega) | (simp only [sz_alloc, sz_set, sz_drew, sz_drewN] at *; omega)) _ | refine Below.drew ?_ | refine below_drewN_ ?_ _)) hb2 (by first | omega | (simp only [sz_alloc, sz_set, sz_drew, sz_drewN]; omega) | (simp only [sz_alloc, sz_set, sz_drew, sz_drewN] at *; omega))⟩; have hzw2 := hb2.size; (try simp only [sz_alloc, sz_set, sz_drew, sz_drewN] at hzw2); have hcw2k0 := fun o => hb2.cell (p := ⟨w.heap.size, o, none⟩) (by first | omega | (simp only [sz_alloc, sz_set, sz_drew, sz_drewN]; omega) | (simp only [sz_alloc, sz_set, sz_drew, sz_drewN] at *; omega)); have hfw2k0 := fun o => hb2.frozen (p := ⟨w.heap.size, o, none⟩) (by first | omega | (simp only [sz_alloc, sz_set, sz_drew, sz_drewN]; omega) | (simp only [sz_alloc, sz_set, sz_drew, sz_drewN] at *; omega)); have hlw2k0 : w.heap.size < w2.heap.size := (by first | omega | (simp only [sz_alloc, sz_set, sz_drew, sz_drewN]; omega) | (simp only [sz_alloc, sz_set, sz_drew, sz_drewN] at *; omega))
      have S12 : Since w1 w2 := ⟨hb2⟩
      have S22 : Since w2 w2 := ⟨Below.refl _ _⟩
      obtain ⟨g2, o2, rfl, hg2, c2⟩ := r2.bs hw0b
      rw [Nat.add_zero] at c2
      clear hzb hw0b c1
      go_wp2_with fail
      refine (HNS.out _ _ _ (r2.up (by repeat (first | exact Below.refl _ _ | exact Since.out (by assumption) | refine Below.alloc ?_ (by first | omega | (simp only [sz_alloc, sz_set, sz_drew, sz_drewN]; omega) | (simp only [sz_alloc, sz_set, sz_drew, sz_drewN] at *; omega)) _ | refine Below.setCell ?_ (by first | omega | (simp only [sz_alloc, sz_set, sz_drew, sz_drewN]; omega) | (simp only [sz_alloc, sz_set, sz_drew, sz_drewN] at *; omega)) _ | refine Below.drew ?_ | refine below_drewN_ ?_ _)))).mono ?_
      rintro e w3 ⟨A3, m3, bs3, ys, rfl, hy, hyl, oy, fy, hb3⟩
      have HBw3 : Since w w3 := ⟨below_cat (by repeat (first | exact Below.refl _ _ | exact Since.out (by assumption) | refine Below.alloc ?_ (by first | omega | (simp only [sz_alloc, sz_set, sz_drew, sz_drewN]; omega) | (simp only [sz_alloc, sz_set, sz_drew, sz_drewN] at *; omega)) _ | refine Below.setCell ?_ (by first | omega | (simp only [sz_alloc, sz_set, sz_drew, sz_drewN]; omega) | (simp only [sz_alloc, sz_set, sz_drew, sz_drewN] at *; omega)) _ | refine Below.drew ?_ | refine below_drewN_ ?_ _)) hb3 (by first | omega | (simp only [sz_alloc, sz_set, sz_drew, sz_drewN]; omega) | (simp only [sz_alloc, sz_set, sz_drew, sz_drewN] at *; omega))⟩; have hzw3 := hb3.size; (try simp only [sz_alloc, sz_set, sz_drew, sz_drewN] at hzw3); have hcw3k0 := fun o => hb3.cell (p := ⟨w.heap.size, o, none⟩) (by first | omega | (simp only [sz_alloc, sz_set, sz_drew, sz_drewN]; omega) | (simp only [sz_alloc, sz_set, sz_drew, sz_drewN] at *; omega)); have hfw3k0 := fun o => hb3.frozen (p := ⟨w.heap.size, o, none⟩) (by first | omega | (simp only [sz_alloc, sz_set, sz_drew, sz_drewN]; omega) | (simp only [sz_alloc, sz_set, sz_drew, sz_drewN] at *; omega)); have hlw3k0 : w.heap.size < w3.heap.size := (by first | omega | (simp only [sz_alloc, sz_set, sz_drew, sz_drewN]; omega) | (simp only [sz_alloc, sz_set, sz_drew, sz_drewN] at *; omega))
      have S13 : Since w1 w3 := ⟨below_cat (by repeat (first | exact Below.refl _ _ | exact Since.out (by assumption) | refine Below.alloc ?_ (by first | omega | (simp only [sz_alloc, sz_set, sz_drew, sz_drewN]; omega) | (simp only [sz_alloc, sz_set, sz_drew, sz_drewN] at *; omega)) _ | refine Below.setCell ?_ (by first | omega | (simp only [sz_alloc, sz_set, sz_drew, sz_drewN]; omega) | (simp only [sz_alloc, sz_set, sz_drew, sz_drewN] at *; omega)) _ | refine Below.drew ?_ | refine below_drewN_ ?_ _)) hb3 (by first | omega | (simp only [sz_alloc, sz_set, sz_drew, sz_drewN]; omega) | (simp only [sz_alloc, sz_set, sz_drew, sz_drewN] at *; omega))⟩
      have S23 : Since w2 w3 := ⟨below_cat (by repeat (first | exact Below.refl _ _ | exact Since.out (by assumption) | refine Below.alloc ?_ (by first | omega | (simp only [sz_alloc, sz_set, sz_drew, sz_drewN]; omega) | (simp only [sz_alloc, sz_set, sz_drew, sz_drewN] at *; omega)) _ | refine Below.setCell ?_ (by first | omega | (simp only [sz_alloc, sz_set, sz_drew, sz_drewN]; omega) | (simp only [sz_alloc, sz_set, sz_drew, sz_drewN] at *; omega)) _ | refine Below.drew ?_ | refine below_drewN_ ?_ _)) hb3 (by first | omega | (simp only [sz_alloc, sz_set, sz_drew, sz_drewN]; omega) | (simp only [sz_alloc, sz_set, sz_drew, sz_drewN] at *; omega))⟩
      have S33 : Since w3 w3 := ⟨Below.refl _ _⟩
      have cz3 := (S13.out.cell (p := ⟨g1, o1 + n, none⟩) hg1).trans cz
      have c23 := (S23.out.cell (p := ⟨g2, o2, none⟩) hg2).trans c2
      have hg13 : g1 < w3.heap.size := by omega
      have hg23 : g2 < w3.heap.size := by omega
      clear r2 cz c2
      cases hG : numsOk hd.tail with
      | false =>
        have HE := Lib.hid (tnBad H20.out HLS.out (docBad1 (by rw [HHD.out]; exact hG)))
        clear hG hy
        go_wp2
        have p0 : w3.cell? ⟨w.heap.size, 0, none⟩ = some (.int .i64 0) := by go_simp
        have p1 : w3.cell? ⟨w.heap.size, 1, none⟩ = some (.int .i64 0) := by go_simp
        have p2 : w3.cell? ⟨w.heap.size, 2, none⟩ = some (.slice none 0 0) := by go_simp
        rw [HE.out.1, HE.out.2]
        exact bodyPost_ret (v := .tuple #[.agg #[.int .i64 0, .int .i64 0, .slice none 0 0], .int .i64 5]) (by simp [results, Tryd.results21, go_sem, p0, p1, p2]) rfl (tn_err (by repeat (first | exact Below.refl _ _ | exact Since.out (by assumption) | refine Below.alloc ?_ (by first | omega | (simp only [sz_alloc, sz_set, sz_drew, sz_drewN]; omega) | (simp only [sz_alloc, sz_set, sz_drew, sz_drewN] at *; omega)) _ | refine Below.setCell ?_ (by first | omega | (simp only [sz_alloc, sz_set, sz_drew, sz_drewN]; omega) | (simp only [sz_alloc, sz_set, sz_drew, sz_drewN] at *; omega)) _ | refine Below.drew ?_ | refine below_drewN_ ?_ _)))
      | true =>
        obtain rfl := hy hG
        have RY : RdS w3 w3.heap.size A3 (numsV hd.tail) := oy.rd fun g hg => (fy.2 g hg).2
        rw [HVL.out]
        have HGG := Lib.hid hG
        clear hG hy oy fy
        by_cases hw : w0 = turnerT
        · have qw : (w0 == [116, 117, 114, 110, 101, 114]) = true := lst_eq hw
          have HWW := Lib.hid hw
          clear hw
          by_cases h3 : p = 3
          · subst h3
            by_cases hz0 : z = []
            · have qz : (z == []) = true := lst_eq hz0
              obtain ⟨va, vb, vc, hv⟩ : ∃ va vb vc, numsV hd.tail = [va, vb, vc] := by
                have := HVL.out
                match numsV hd.tail, this with
                | [a, b, c], _ => exact ⟨a, b, c, rfl⟩
              obtain ⟨g3, o3, rfl, hg3, k0⟩ := RY.int (k := 0) (x := va) (by rw [hv]; rfl)
              obtain ⟨g', o', e', _, k1⟩ := RY.int (k := 1) (x := vb) (by rw [hv]; rfl)
              cases e'
              obtain ⟨g', o', e', _, k2⟩ := RY.int (k := 2) (x := vc) (by rw [hv]; rfl)
              cases e'
              rw [Nat.add_zero] at k0
              have hvb : 0 ≤ vb ∧ vb < 1000000000 := by
                have h1 : (numsV hd.tail)[1]? = some vb := by rw [hv]; rfl
                unfold numsV at h1
                rw [List.getElem?_map, Option.map_eq_some_iff] at h1
                obtain ⟨y, _, rfl⟩ := h1
                exact numV_bound y
              have hvw : IntKind.i64.wrap (vb + 2) = vb + 2 := by rw [IntKind.wrap_i64]; omega
              have hvw2 : wrap64 (vb + 2) = vb + 2 := by unfold wrap64; omega
              have HV := Lib.hid hv
              have HZ0 := Lib.hid hz0
              obtain ⟨hvb0, hvb1⟩ := hvb
              clear hv hz0 RY
              by_cases hL : (n : Int) + 1 = vb + 2
              · have qL : ((n : Int) + 1 == vb + 2) = true := by rw [beq_iff_eq]; exact hL
                have HLL := Lib.hid hL
                clear hL
                go_wp2
                go_wp2
                go_cut [8] (fun s8 wx => ∃ g : Nat, s8 = .pointer (some ⟨g, 0, none⟩) ∧ Hid (wx.heap[g]? = some (.cells #[.int .i64 va, .int .i64 vc, .slice none 0 0] 40 (0, 0))) ∧ w3.heap.size ≤ g ∧ Since w3 wx)
                case first =>
                  refine Held.begin (fun w' => w'.cell? ⟨g3, o3, none⟩ = some (.int .i64 va) ∧ w'.cell? ⟨g3, o3 + 2, none⟩ = some (.int .i64 vc)) 8 (by kernel_rfl) (by (try dsimp only); (first | (go_keep; done) | (and_intros <;> go_simp))) (fun hHeld => ?_); (first | (refine Held.take (i := 0) (v := undef) (by (simp only [List.getElem?_toArray, List.getElem?_cons_succ, List.getElem?_cons_zero]); exact rfl) (by decide) (by kernel_rfl) (by kernel_rfl) (by kernel_rfl) (by kernel_rfl) (by exact fun _ _ _ h => h) (by exact Or.inr ⟨by rfl, rfl⟩) (by assumption) ?_) | (refine Held.take (i := 0) (v := ?_) (by (simp only [List.getElem?_toArray, List.getElem?_cons_succ, List.getElem?_cons_zero]); exact rfl) (by decide) (by kernel_rfl) (by kernel_rfl) (by kernel_rfl) (by kernel_rfl) (by exact fun _ _ _ h => h) (by refine Or.inl ⟨by rfl, ?_⟩; intro wS hSw; (try dsimp only at hSw); go_simp; (try with_reducible rfl)) (by assumption) ?_)); (try simp only [Act.put, List.setIfInBounds_toArray, List.set_cons_zero, List.set_cons_succ]); (first | (refine Held.take (i := 1) (v := undef) (by (simp only [List.getElem?_toArray, List.getElem?_cons_succ, List.getElem?_cons_zero]); exact rfl) (by decide) (by kernel_rfl) (by kernel_rfl) (by kernel_rfl) (by kernel_rfl) (by exact fun _ _ _ h => h) (by exact Or.inr ⟨by rfl, rfl⟩) (by assumption) ?_) | (refine Held.take (i := 1) (v := ?_) (by (simp only [List.getElem?_toArray, List.getElem?_cons_succ, List.getElem?_cons_zero]); exact rfl) (by decide) (by kernel_rfl) (by kernel_rfl) (by kernel_rfl) (by kernel_rfl) (by exact fun _ _ _ h => h) (by refine Or.inl ⟨by rfl, ?_⟩; intro wS hSw; (try dsimp only at hSw); go_simp; (try with_reducible rfl)) (by assumption) ?_)); (try simp only [Act.put, List.setIfInBounds_toArray, List.set_cons_zero, List.set_cons_succ]); (first | (refine Held.take (i := 2) (v := undef) (by (simp only [List.getElem?_toArray, List.getElem?_cons_succ, List.getElem?_cons_zero]); exact rfl) (by decide) (by kernel_rfl) (by kernel_rfl) (by kernel_rfl) (by kernel_rfl) (by exact fun _ _ _ h => h) (by exact Or.inr ⟨by rfl, rfl⟩) (by assumption) ?_) | (refine Held.take (i := 2) (v := ?_) (by (simp only [List.getElem?_toArray, List.getElem?_cons_succ, List.getElem?_cons_zero]); exact rfl) (by decide) (by kernel_rfl) (by kernel_rfl) (by kernel_rfl) (by kernel_rfl) (by exact fun _ _ _ h => h) (by refine Or.inl ⟨by rfl, ?_⟩; intro wS hSw; (try dsimp only at hSw); go_simp; (try with_reducible rfl)) (by assumption) ?_)); (try simp only [Act.put, List.setIfInBounds_toArray, List.set_cons_zero, List.set_cons_succ]); (first | (refine Held.take (i := 3) (v := undef) (by (simp only [List.getElem?_toArray, List.getElem?_cons_succ, List.getElem?_cons_zero]); exact rfl) (by decide) (by kernel_rfl) (by kernel_rfl) (by kernel_rfl) (by kernel_rfl) (by exact fun _ _ _ h => h) (by exact Or.inr ⟨by rfl, rfl⟩) (by assumption) ?_) | (refine Held.take (i := 3) (v := ?_) (by (simp only [List.getElem?_toArray, List.getElem?_cons_succ, List.getElem?_cons_zero]); exact rfl) (by decide) (by kernel_rfl) (by kernel_rfl) (by kernel_rfl) (by kernel_rfl) (by exact fun _ _ _ h => h) (by refine Or.inl ⟨by rfl, ?_⟩; intro wS hSw; (try dsimp only at hSw); go_simp; (try with_reducible rfl)) (by assumption) ?_)); (try simp only [Act.put, List.setIfInBounds_toArray, List.set_cons_zero, List.set_cons_succ]); (first | (refine Held.take (i := 4) (v := undef) (by (simp only [List.getElem?_toArray, List.getElem?_cons_succ, List.getElem?_cons_zero]); exact rfl) (by decide) (by kernel_rfl) (by kernel_rfl) (by kernel_rfl) (by kernel_rfl) (by exact fun _ _ _ h => h) (by exact Or.inr ⟨by rfl, rfl⟩) (by assumption) ?_) | (refine Held.take (i := 4) (v := ?_) (by (simp only [List.getElem?_toArray, List.getElem?_cons_succ, List.getElem?_cons_zero]); exact rfl) (by decide) (by kernel_rfl) (by kernel_rfl) (by kernel_rfl) (by kernel_rfl) (by exact fun _ _ _ h => h) (by refine Or.inl ⟨by rfl, ?_⟩; intro wS hSw; (try dsimp only at hSw); go_simp; (try with_reducible rfl)) (by assumption) ?_)); (try simp only [Act.put, List.setIfInBounds_toArray, List.set_cons_zero, List.set_cons_succ]); (first | (refine Held.take (i := 5) (v := undef) (by (simp only [List.getElem?_toArray, List.getElem?_cons_succ, List.getElem?_cons_zero]); exact rfl) (by decide) (by kernel_rfl) (by kernel_rfl) (by kernel_rfl) (by kernel_rfl) (by exact fun _ _ _ h => h) (by exact Or.inr ⟨by rfl, rfl⟩) (by assumption) ?_) | (refine Held.take (i := 5) (v := ?_) (by (simp only [List.getElem?_toArray, List.getElem?_cons_succ, List.getElem?_cons_zero]); exact rfl) (by decide) (by kernel_rfl) (by kernel_rfl) (by kernel_rfl) (by kernel_rfl) (by exact fun _ _ _ h => h) (by refine Or.inl ⟨by rfl, ?_⟩; intro wS hSw; (try dsimp only at hSw); go_simp; (try with_reducible rfl)) (by assumption) ?_)); (try simp only [Act.put, List.setIfInBounds_toArray, List.set_cons_zero, List.set_cons_succ]); (first | (refine Held.take (i := 6) (v := undef) (by (simp only [List.getElem?_toArray, List.getElem?_cons_succ, List.getElem?_cons_zero]); exact rfl) (by decide) (by kernel_rfl) (by kernel_rfl) (by kernel_rfl) (by kernel_rfl) (by exact fun _ _ _ h => h) (by exact Or.inr ⟨by rfl, rfl⟩) (by assumption) ?_) | (refine Held.take (i := 6) (v := ?_) (by (simp only [List.getElem?_toArray, List.getElem?_cons_succ, List.getElem?_cons_zero]); exact rfl) (by decide) (by kernel_rfl) (by kernel_rfl) (by kernel_rfl) (by kernel_rfl) (by exact fun _ _ _ h => h) (by refine Or.inl ⟨by rfl, ?_⟩; intro wS hSw; (try dsimp only at hSw); go_simp; (try with_reducible rfl)) (by assumption) ?_)); (try simp only [Act.put, List.setIfInBounds_toArray, List.set_cons_zero, List.set_cons_succ]); refine Held.one (i := 7) (by (simp only [List.getElem?_toArray, List.getElem?_cons_succ, List.getElem?_cons_zero]); exact rfl) (by kernel_rfl) (fun K hK => ?_); go_simp; refine hK.out _ _ (by (try dsimp only); (first | (go_keep; done) | (and_intros <;> go_simp))) (fun hHeld => ?_); clear hK K; (try simp only [Act.put, List.setIfInBounds_toArray, List.set_cons_zero, List.set_cons_succ]); refine Held.last (i := 8) (by (simp only [List.getElem?_toArray, List.getElem?_cons_succ, List.getElem?_cons_zero]); exact rfl) (by decide) (by kernel_rfl) (fun K hK => ?_); go_simp; refine hK.out _ _ ?_; clear hK K; (try simp only [Act.put, List.setIfInBounds_toArray, List.set_cons_zero, List.set_cons_succ]); refine Held.done (by kernel_rfl) ?_ _
                  go_wp2_with fail
                  go_meet
                  exact ⟨_, rfl, Lib.hid (by repeat (first | (with_reducible exact new_block rfl) | ((with_reducible refine new_block ?_); (focus (simp only [sz_alloc, sz_set, sz_drew, sz_drewN]; done))) | ((with_reducible refine blk_fill3 (cur := #[.int .i64 0 , .int .i64 0 , .slice none 0 0]) ?_ ?_); rotate_left; (focus (rfl; done))) | ((with_reducible refine blk_far ?_ ?_ _); rotate_left; (focus ((try simp only [ne_eq]); omega; done))) | ((with_reducible refine alloc_block ?_ ?_); rotate_left; (focus (first | omega | (simp only [sz_alloc, sz_set, sz_drew, sz_drewN]; omega) | (simp only [sz_alloc, sz_set, sz_drew, sz_drewN] at *; omega); done))) | rw [heap_drew] | ((with_reducible refine (Below.block hb3 _ ?_).trans ?_); (focus (first | omega | (simp only [sz_alloc, sz_set, sz_drew, sz_drewN]; omega) | (simp only [sz_alloc, sz_set, sz_drew, sz_drewN] at *; omega); done))))), (by first | omega | (simp only [sz_alloc, sz_set, sz_drew, sz_drewN]; omega) | (simp only [sz_alloc, sz_set, sz_drew, sz_drewN] at *; omega)), ⟨(by repeat (first | exact Below.refl _ _ | refine Below.alloc ?_ (by first | omega | (simp only [sz_alloc, sz_set, sz_drew, sz_drewN]; omega) | (simp only [sz_alloc, sz_set, sz_drew, sz_drewN] at *; omega)) _ | refine Below.setCell ?_ (by first | omega | (simp only [sz_alloc, sz_set, sz_drew, sz_drewN]; omega) | (simp only [sz_alloc, sz_set, sz_drew, sz_drewN] at *; omega)) _ | refine Below.drew ?_ | refine below_drewN_ ?_ _))⟩⟩
                case rest =>
                  obtain ⟨g, rfl, HG, hg4, HQ4⟩ := hcut
                  obtain ⟨w4, rfl⟩ : ∃ x, x = wc := ⟨_, rfl⟩
                  have hgl : g < w4.heap.size := (Array.getElem?_eq_some_iff.1 HG.out).1
                  have hz4 := HQ4.out.size
                  have hdg : docGood turnerT (l0 :: t) = true := docYes (by rw [HHD.out]; exact HGG.out) (by rw [HHD.out, HW0.out, HWW.out]) (by rw [HHD.out, ← HP.out]) (by rw [HLZ.out, HZ0.out]) (by
                    have := HLL.out
                    rw [HHD.out, HV.out, List.length_cons, ← HN.out]
                    simpa using this)
                  have hmid : t = midOf (l0 :: t) ++ [[]] := by
                    obtain ⟨hd', ws', h1, -⟩ := docGood_of hdg
                    injection h1
                  obtain ⟨mid, hmd⟩ : ∃ mid, mid = midOf (l0 :: t) := ⟨_, rfl⟩
                  rw [← hmd] at hmid
                  obtain ⟨nm, hnm⟩ : ∃ nm, nm = mid.length := ⟨_, rfl⟩
                  have hn1 : n = nm + 1 := by
                    have h := congrArg List.length hmid
                    rw [← HN.out, List.length_append, ← hnm] at h
                    exact h
                  have hmget : ∀ k x, mid[k]? = some x → (l0 :: t)[k + 1]? = some x := fun k x hx => by
                    rw [List.getElem?_cons_succ, hmid, List.getElem?_append_left (List.getElem?_eq_some_iff.1 hx).1]
                    exact hx
                  have HMG := Lib.hid hmget
                  have HMD := Lib.hid hmd
                  have HNM := Lib.hid hnm
                  have HMI := Lib.hid hmid
                  have HDG := Lib.hid hdg
                  have hnl : nm ≤ 1048576 := by omega
                  have HN1 := Lib.hid hn1
                  have hwl : w.heap.size < w1.heap.size := hlw1k0
                  have hz13 := S13.out.size
                  clear hmid hmd hnm hmget hdg cz3 c23 k0 k1 k2 hn1
                  go_wp2
                  go_loopw [9] (fun i wr => ∃ (k : Nat) (D : Option Addr) (m : Nat) (bs : List Nat), k ≤ nm ∧ i = .int .i64 ((k + 1 : Nat) : Int) ∧ Hid (wr.heap[g]? = some (.cells #[.int .i64 va, .int .i64 vc, .slice D k m] 40 (0, 0))) ∧ Hid (Acc wr w4.heap.size 97 D k m ((mid.take k).map rowTV) bs) ∧ Hid ((mid.take k).all rowTGood = true) ∧ Since w3 wr ∧ w4.heap.size ≤ wr.heap.size) (fun i _ => nm + 1 - (intOf i).toNat)
                  case atStart => exact ⟨0, none, 0, [], Nat.zero_le _, rfl, HG, Lib.hid (Acc.nil_ _ _ _), Lib.hid rfl, HQ4, Nat.le_refl _⟩
                  case round =>
                    obtain ⟨k, D, m, bs, hk, rfl, HB, HA, HAL, hs, hzr⟩ := hrel
                    obtain ⟨wo, rfl⟩ : ∃ wo, wo = wr := ⟨_, rfl⟩
                    have hzo := hs.out.size
                    have HSo1 : Since w1 wo := ⟨S13.out.trans (hs.out.mono hz13)⟩
                    have HSw : Since w wo := ⟨HBw3.out.trans (hs.out.mono HBw3.out.size)⟩
                    have HSoo : Since wo wo := ⟨Below.refl _ _⟩
                    have hwo : w.heap.size < wo.heap.size := by omega
                    have q0 : wo.cell? ⟨w.heap.size, 0, none⟩ = some (.int .i64 0) := (HSo1.out.cell (p := ⟨w.heap.size, 0, none⟩) hwl).trans (by go_simp)
                    have q1 : wo.cell? ⟨w.heap.size, 1, none⟩ = some (.int .i64 0) := (HSo1.out.cell (p := ⟨w.heap.size, 1, none⟩) hwl).trans (by go_simp)
                    have q2 : wo.cell? ⟨w.heap.size, 2, none⟩ = some (.slice none 0 0) := (HSo1.out.cell (p := ⟨w.heap.size, 2, none⟩) hwl).trans (by go_simp)
                    have qf : ∀ o, wo.frozen? ⟨w.heap.size, o, none⟩ = (w.alloc (.cells #[.int .i64 0, .int .i64 0, .slice none 0 0] 40)).frozen? ⟨w.heap.size, o, none⟩ := fun o => (HSo1.out.frozen (p := ⟨w.heap.size, o, none⟩) hwl).trans (hfw1k0 o)
                    by_cases hlt : k < nm
                    · obtain ⟨x, hx⟩ := get_some (xs := mid) (k := k) (by rw [← HNM.out]; exact hlt)
                      have hmx := List.mem_of_getElem? hx
                      have hgx := HMG.out k x hx
                      have hxl := HIN.out x (List.mem_of_getElem? hgx)
                      have HT : Hid ((mid.take (k + 1)).map rowTV = (mid.take k).map rowTV ++ [rowTV x]) := Lib.hid (by rw [take_snoc hx]; simp)
                      have HTG : Hid ((mid.take (k + 1)).all rowTGood = ((mid.take k).all rowTGood && rowTGood x)) := Lib.hid (by rw [take_snoc hx]; simp)
                      obtain ⟨g', o', e', _, cx⟩ := r.bs (bs_get hgx)
                      cases e'
                      have cx : wo.cell? ⟨g1, o1 + (k + 1), none⟩ = some (.string (str x)) := (HSo1.out.cell (p := ⟨g1, o1 + (k + 1), none⟩) hg1).trans cx
                      have hg1o : g1 < wo.heap.size := by omega
                      have i2 : (0 : Int) ≤ (k : Int) + 1 := by omega
                      have i3 : (k : Int) + 1 < (n : Int) := by have := HN1.out; omega
                      have i4 : (k : Int) + 1 + 1 < (n : Int) + 1 := by have := HN1.out; omega
                      have hwl2 := splitL_len 32 x
                      have hwne := List.length_pos_iff.2 (splitL_ne 32 x)
                      have hwin : ∀ y ∈ splitL 32 x, y.length ≤ 1048576 := fun y hy => by have := splitL_in 32 x y hy; omega
                      have HC := Lib.hid (fun W => split_spec x 32 32 rfl W (by omega))
                      obtain ⟨ws, hws⟩ : ∃ ws, ws = splitL 32 x := ⟨_, rfl⟩
                      rw [← hws] at HC hwl2 hwne hwin
                      obtain ⟨x0, hx0⟩ := get_some hwne
                      have hx0b := bs_get hx0
                      obtain ⟨q, hq⟩ : ∃ q, ws.length = q + 1 := ⟨ws.length - 1, by omega⟩
                      have HC : Hid (∀ W, Calls Tryd.prog 44 #[.string (str x), .int .u8 32] W fun e w' => ∃ A c, e = .returned (.slice A (q + 1) c) ∧ RdS w' w'.heap.size A (ws.map Bs.mk) ∧ (∀ a, A = some a → W.heap.size ≤ a.block) ∧ Below W.heap.size W w') := Lib.hid (fun W => (HC.out W).mono fun e w' ⟨A, c, h1, h2, h3, h4⟩ => ⟨A, c, by rw [← hq]; exact h1, h2, h3, h4⟩)
                      have HRN : Hid (rowTV x = ws.tail.map mvV) := Lib.hid (by rw [hws]; rfl)
                      obtain ⟨H, hH⟩ : ∃ H, H = decide (x0 = stateT) := ⟨_, rfl⟩
                      have HRG : Hid (rowTGood x = (H && ws.tail.all mvOkB)) := Lib.hid (by unfold rowTGood; rw [← hws, hx0, hH]; simp)
                      have qs : (x0 == [115, 116, 97, 116, 101]) = H := by
                        rw [hH]
                        show (x0 == stateT) = _
                        by_cases h : x0 = stateT <;> simp [h]
                      have hbadrow : rowTGood x = false → tnC l = ⟨0, 0, []⟩ ∧ tnCode l = 5 := fun h => tnBadRow H20.out HLS.out (by
                        rw [← HMD.out, Bool.eq_false_iff]
                        intro h2
                        have := List.all_eq_true.1 h2 x hmx
                        rw [h] at this
                        cases this)
                      have HBR := Lib.hid hbadrow
                      have hq' : ws.tail.length = q := by rw [List.length_tail, hq]; rfl
                      have HQ' := Lib.hid hq'
                      have HWI := Lib.hid hwin
                      have HWG : Hid (∀ j y, ws.tail[j]? = some y → ws[j + 1]? = some y) := Lib.hid (fun j y h => by rw [List.getElem?_tail] at h; exact h)
                      have hq1 : q ≤ 1048576 := by omega
                      clear hx hmx hgx hwne hwin hws hq hx0 hwl2 hbadrow hH hq'
                      go_wp2_with fail
                      refine (HC.out _).mono ?_
                      rintro e w5 ⟨A5, m5, rfl, r5, hf5, hb5⟩
                      have HBw5 : Since w w5 := ⟨below_cat (by repeat (first | exact Below.refl _ _ | exact Since.out (by assumption) | refine Below.alloc ?_ (by first | omega | (simp only [sz_alloc, sz_set, sz_drew, sz_drewN]; omega) | (simp only [sz_alloc, sz_set, sz_drew, sz_drewN] at *; omega)) _ | refine Below.setCell ?_ (by first | omega | (simp only [sz_alloc, sz_set, sz_drew, sz_drewN]; omega) | (simp only [sz_alloc, sz_set, sz_drew, sz_drewN] at *; omega)) _ | refine Below.drew ?_ | refine below_drewN_ ?_ _)) hb5 (by first | omega | (simp only [sz_alloc, sz_set, sz_drew, sz_drewN]; omega) | (simp only [sz_alloc, sz_set, sz_drew, sz_drewN] at *; omega))⟩; have hzw5 := hb5.size; (try simp only [sz_alloc, sz_set, sz_drew, sz_drewN] at hzw5); have hcw5k0 := fun o => hb5.cell (p := ⟨w.heap.size, o, none⟩) (by first | omega | (simp only [sz_alloc, sz_set, sz_drew, sz_drewN]; omega) | (simp only [sz_alloc, sz_set, sz_drew, sz_drewN] at *; omega)); have hfw5k0 := fun o => hb5.frozen (p := ⟨w.heap.size, o, none⟩) (by first | omega | (simp only [sz_alloc, sz_set, sz_drew, sz_drewN]; omega) | (simp only [sz_alloc, sz_set, sz_drew, sz_drewN] at *; omega)); have hlw5k0 : w.heap.size < w5.heap.size := (by first | omega | (simp only [sz_alloc, sz_set, sz_drew, sz_drewN]; omega) | (simp only [sz_alloc, sz_set, sz_drew, sz_drewN] at *; omega))
                      obtain ⟨g5, o5, rfl, hg5, c5⟩ := r5.bs hx0b
                      rw [Nat.add_zero] at c5
                      have S5 : Since wo w5 := ⟨hb5⟩
                      have hzo5 := S5.out.size
                      have HSI5 : Since w3 w5 := ⟨hs.out.trans (S5.out.mono hzo)⟩
                      clear hf5 hx0b cx
                      go_wp2
                      go_loopw [7, 11, 12] (fun gd rw_ i wi => ∃ (j : Nat) (E : Option Addr) (f : Nat) (B : Bool), j ≤ q ∧ gd = .bool B ∧ rw_ = .slice E j f ∧ i = .int .i64 ((j + 1 : Nat) : Int) ∧ Hid (Acc wi w5.heap.size 99 E j f ((ws.tail.take j).map mvV) []) ∧ Hid (B = (H && (ws.tail.take j).all mvOkB)) ∧ Since w5 wi) (fun _ _ i _ => q + 1 - (intOf i).toNat)
                      case atStart => exact ⟨0, _, _, H, Nat.zero_le _, rfl, rfl, rfl, Lib.hid (Acc.empty_ (new_block rfl) (Nat.le_refl _)), Lib.hid (by simp), ⟨(by repeat (first | exact Below.refl _ _ | refine Below.alloc ?_ (by first | omega | (simp only [sz_alloc, sz_set, sz_drew, sz_drewN]; omega) | (simp only [sz_alloc, sz_set, sz_drew, sz_drewN] at *; omega)) _ | refine Below.setCell ?_ (by first | omega | (simp only [sz_alloc, sz_set, sz_drew, sz_drewN]; omega) | (simp only [sz_alloc, sz_set, sz_drew, sz_drewN] at *; omega)) _ | refine Below.drew ?_ | refine below_drewN_ ?_ _))⟩⟩
                      case round =>
                        obtain ⟨j, E, f, B, hj, rfl, rfl, rfl, H2, HBB, hs2⟩ := hrel
                        obtain ⟨wi, rfl⟩ : ∃ wi, wi = wr := ⟨_, rfl⟩
                        have hzi := hs2.out.size
                        by_cases hlt2 : j < q
                        · obtain ⟨y, hy⟩ := get_some (xs := ws.tail) (k := j) (by rw [HQ'.out]; exact hlt2)
                          have hyl := HWI.out y (List.mem_of_mem_tail (List.mem_of_getElem? hy))
                          obtain ⟨b', o', e', _, cy⟩ := r5.bs (bs_get (HWG.out j y hy))
                          cases e'
                          have cy : wi.cell? ⟨g5, o5 + (j + 1), none⟩ = some (.string (str y)) := (hs2.out.cell (p := ⟨g5, o5 + (j + 1), none⟩) hg5).trans cy
                          have hg5i : g5 < wi.heap.size := by omega
                          have j2 : (0 : Int) ≤ (j : Int) + 1 := by omega
                          have j3 : (j : Int) < (q : Int) := by omega
                          have j4 : (j : Int) + 1 < (q : Int) + 1 := by omega
                          have HM := Lib.hid (fun W => l02Read_spec y W hyl)
                          obtain ⟨M1, M2, hM⟩ : ∃ M1 M2, mvV y = (M1, M2) := ⟨_, _, rfl⟩
                          obtain ⟨OK, hOK⟩ : ∃ OK, OK = mvOkB y := ⟨_, rfl⟩
                          have HZ2 : Hid ((ws.tail.take (j + 1)).map mvV = (ws.tail.take j).map mvV ++ [(M1, M2)]) := Lib.hid (by rw [take_snoc hy]; simp [hM])
                          have HZ3 : Hid ((ws.tail.take (j + 1)).all mvOkB = ((ws.tail.take j).all mvOkB && OK)) := Lib.hid (by rw [take_snoc hy, hOK]; simp)
                          rw [hM, ← hOK] at HM
                          clear hy hM hOK
                          cases B with
                          | false =>
                            go_wp2_with fail
                            refine (HM.out _).mono ?_
                            rintro e w6 ⟨rfl, hb6⟩
                            have HBi6 : Since wi w6 := ⟨hb6⟩
                            have hz6 := hb6.size
                            have HB56 : Since w5 w6 := ⟨hs2.out.trans (hb6.mono hzi)⟩
                            go_wp2_with (at_builtin; refine wpList_push (α := Int × Int) _ (by rfl) (.tmp 104) (.tmp 106) 97 (by rfl) w5.heap.size 99 (.agg #[.int .i64 0, .int .i64 0]) 16 Tryd.underlying97 infoMove rfl E j f _ [] (by rfl) (H2.out.below (C := wi.heap.size) (by repeat (first | exact Below.refl _ _ | exact Since.out (by assumption) | refine Below.alloc ?_ (by first | omega | (simp only [sz_alloc, sz_set, sz_drew, sz_drewN]; omega) | (simp only [sz_alloc, sz_set, sz_drew, sz_drewN] at *; omega)) _ | refine Below.setCell ?_ (by first | omega | (simp only [sz_alloc, sz_set, sz_drew, sz_drewN]; omega) | (simp only [sz_alloc, sz_set, sz_drew, sz_drewN] at *; omega)) _ | refine Below.drew ?_ | refine below_drewN_ ?_ _)) (Nat.le_refl _)) (w6.heap.size + 1) 1 (by rfl) (M1, M2) [.int .i64 M1, .int .i64 M2] [] ⟨rfl, rfl⟩ (new_cells (by first | rfl | simp [sz_set])) (fun u hu => by (simp at hu; rcases hu with rfl | rfl <;> rfl)) ⟨List.nodup_nil, fun g hg => by simp at hg⟩ (fun g hg => by simp at hg) (by omega) (by omega) (by first | omega | (simp only [sz_alloc, sz_set, sz_drew, sz_drewN]; omega) | (simp only [sz_alloc, sz_set, sz_drew, sz_drewN] at *; omega)) ?_
                                         intro E2 d2 w7 hacc hgr hnew
                                         have HS7 : Since w5 w7 := ⟨Acc.since (H2.out.below (C := wi.heap.size) (by repeat (first | exact Below.refl _ _ | exact Since.out (by assumption) | refine Below.alloc ?_ (by first | omega | (simp only [sz_alloc, sz_set, sz_drew, sz_drewN]; omega) | (simp only [sz_alloc, sz_set, sz_drew, sz_drewN] at *; omega)) _ | refine Below.setCell ?_ (by first | omega | (simp only [sz_alloc, sz_set, sz_drew, sz_drewN]; omega) | (simp only [sz_alloc, sz_set, sz_drew, sz_drewN] at *; omega)) _ | refine Below.drew ?_ | refine below_drewN_ ?_ _)) (Nat.le_refl _)) hgr (by repeat (first | exact Below.refl _ _ | exact Since.out (by assumption) | refine Below.alloc ?_ (by first | omega | (simp only [sz_alloc, sz_set, sz_drew, sz_drewN]; omega) | (simp only [sz_alloc, sz_set, sz_drew, sz_drewN] at *; omega)) _ | refine Below.setCell ?_ (by first | omega | (simp only [sz_alloc, sz_set, sz_drew, sz_drewN]; omega) | (simp only [sz_alloc, sz_set, sz_drew, sz_drewN] at *; omega)) _ | refine Below.drew ?_ | refine below_drewN_ ?_ _)) (Nat.le_refl _) (by first | omega | (simp only [sz_alloc, sz_set, sz_drew, sz_drewN]; omega) | (simp only [sz_alloc, sz_set, sz_drew, sz_drewN] at *; omega))⟩
                                         have HA7 := Lib.hid hacc
                                         clear hacc hgr hnew)
                            go_roundw
                            case rel => exact ⟨j + 1, E2, d2, false, by omega, rfl, by first | rfl | simp, by go_num, Lib.hid (by rw [HZ2.out]; exact HA7.out), Lib.hid (by rw [HZ3.out, ← Bool.and_assoc, ← HBB.out, Bool.false_and]), HS7⟩
                            case measure => simp [intOf]; omega
                          | true =>
                            go_wp2_with fail
                            refine (HM.out _).mono ?_
                            rintro e w6 ⟨rfl, hb6⟩
                            have HBi6 : Since wi w6 := ⟨hb6⟩
                            have hz6 := hb6.size
                            have HB56 : Since w5 w6 := ⟨hs2.out.trans (hb6.mono hzi)⟩
                            go_wp2_with (at_builtin; refine wpList_push (α := Int × Int) _ (by rfl) (.tmp 104) (.tmp 106) 97 (by rfl) w5.heap.size 99 (.agg #[.int .i64 0, .int .i64 0]) 16 Tryd.underlying97 infoMove rfl E j f _ [] (by rfl) (H2.out.below (C := wi.heap.size) (by repeat (first | exact Below.refl _ _ | exact Since.out (by assumption) | refine Below.alloc ?_ (by first | omega | (simp only [sz_alloc, sz_set, sz_drew, sz_drewN]; omega) | (simp only [sz_alloc, sz_set, sz_drew, sz_drewN] at *; omega)) _ | refine Below.setCell ?_ (by first | omega | (simp only [sz_alloc, sz_set, sz_drew, sz_drewN]; omega) | (simp only [sz_alloc, sz_set, sz_drew, sz_drewN] at *; omega)) _ | refine Below.drew ?_ | refine below_drewN_ ?_ _)) (Nat.le_refl _)) (w6.heap.size + 1) 1 (by rfl) (M1, M2) [.int .i64 M1, .int .i64 M2] [] ⟨rfl, rfl⟩ (new_cells (by first | rfl | simp [sz_set])) (fun u hu => by (simp at hu; rcases hu with rfl | rfl <;> rfl)) ⟨List.nodup_nil, fun g hg => by simp at hg⟩ (fun g hg => by simp at hg) (by omega) (by omega) (by first | omega | (simp only [sz_alloc, sz_set, sz_drew, sz_drewN]; omega) | (simp only [sz_alloc, sz_set, sz_drew, sz_drewN] at *; omega)) ?_
                                         intro E2 d2 w7 hacc hgr hnew
                                         have HS7 : Since w5 w7 := ⟨Acc.since (H2.out.below (C := wi.heap.size) (by repeat (first | exact Below.refl _ _ | exact Since.out (by assumption) | refine Below.alloc ?_ (by first | omega | (simp only [sz_alloc, sz_set, sz_drew, sz_drewN]; omega) | (simp only [sz_alloc, sz_set, sz_drew, sz_drewN] at *; omega)) _ | refine Below.setCell ?_ (by first | omega | (simp only [sz_alloc, sz_set, sz_drew, sz_drewN]; omega) | (simp only [sz_alloc, sz_set, sz_drew, sz_drewN] at *; omega)) _ | refine Below.drew ?_ | refine below_drewN_ ?_ _)) (Nat.le_refl _)) hgr (by repeat (first | exact Below.refl _ _ | exact Since.out (by assumption) | refine Below.alloc ?_ (by first | omega | (simp only [sz_alloc, sz_set, sz_drew, sz_drewN]; omega) | (simp only [sz_alloc, sz_set, sz_drew, sz_drewN] at *; omega)) _ | refine Below.setCell ?_ (by first | omega | (simp only [sz_alloc, sz_set, sz_drew, sz_drewN]; omega) | (simp only [sz_alloc, sz_set, sz_drew, sz_drewN] at *; omega)) _ | refine Below.drew ?_ | refine below_drewN_ ?_ _)) (Nat.le_refl _) (by first | omega | (simp only [sz_alloc, sz_set, sz_drew, sz_drewN]; omega) | (simp only [sz_alloc, sz_set, sz_drew, sz_drewN] at *; omega))⟩
                                         have HA7 := Lib.hid hacc
                                         clear hacc hgr hnew)
                            go_roundw
                            case rel => exact ⟨j + 1, E2, d2, OK, by omega, rfl, by first | rfl | simp, by go_num, Lib.hid (by rw [HZ2.out]; exact HA7.out), Lib.hid (by rw [HZ3.out, ← Bool.and_assoc, ← HBB.out, Bool.true_and]), HS7⟩
                            case measure => simp [intOf]; omega
                        · obtain rfl : j = q := by omega
                          have j3 : ¬ (j : Int) < (j : Int) := by omega
                          have hrow := H2.out
                          have hbb := HBB.out
                          rw [List.take_of_length_le (by rw [HQ'.out]; exact Nat.le_refl _)] at hrow hbb
                          have HSi : Since w wi := ⟨HBw5.out.trans (hs2.out.mono HBw5.out.size)⟩
                          have hci := fun o => hs2.out.cell (p := ⟨w.heap.size, o, none⟩) (by show w.heap.size < _; omega)
                          have hfi := fun o => hs2.out.frozen (p := ⟨w.heap.size, o, none⟩) (by show w.heap.size < _; omega)
                          have hli : w.heap.size < wi.heap.size := by omega
                          cases B with
                          | false =>
                            have HE := Lib.hid (HBR.out (by rw [HRG.out, ← hbb]))
                            clear hbb hrow
                            go_wp2
                            have p0 : wi.cell? ⟨w.heap.size, 0, none⟩ = some (.int .i64 0) := by go_simp
                            have p1 : wi.cell? ⟨w.heap.size, 1, none⟩ = some (.int .i64 0) := by go_simp
                            have p2 : wi.cell? ⟨w.heap.size, 2, none⟩ = some (.slice none 0 0) := by go_simp
                            rw [HE.out.1, HE.out.2]
                            exact bodyPost_ret (v := .tuple #[.agg #[.int .i64 0, .int .i64 0, .slice none 0 0], .int .i64 5]) (by simp [results, Tryd.results21, go_sem, p0, p1, p2]) rfl (tn_err (by repeat (first | exact Below.refl _ _ | exact Since.out (by assumption) | refine Below.alloc ?_ (by first | omega | (simp only [sz_alloc, sz_set, sz_drew, sz_drewN]; omega) | (simp only [sz_alloc, sz_set, sz_drew, sz_drewN] at *; omega)) _ | refine Below.setCell ?_ (by first | omega | (simp only [sz_alloc, sz_set, sz_drew, sz_drewN]; omega) | (simp only [sz_alloc, sz_set, sz_drew, sz_drewN] at *; omega)) _ | refine Below.drew ?_ | refine below_drewN_ ?_ _)))
                          | true =>
                            have HGT : Hid (rowTGood x = true) := Lib.hid (by rw [HRG.out, ← hbb])
                            have z0 : wi.heap[g]? = some (.cells #[.int .i64 va, .int .i64 vc, .slice D k m] 40 (0, 0)) := (hs2.out.block _ (by omega)).trans ((S5.out.block g (by omega)).trans HB.out)
                            have k2 : wi.cell? ⟨g, 2, none⟩ = some (.slice D k m) := cell_of_row wi _ 2 _ _ (0, 0) z0
                            have hgi : g < wi.heap.size := by omega
                            have HSi3 : Since w3 wi := ⟨HSI5.out.trans (hs2.out.mono (by omega))⟩
                            have HSoi : Since wo wi := ⟨S5.out.trans (hs2.out.mono hzo5)⟩
                            have Z0 := Lib.hid z0
                            have HROW := Lib.hid hrow
                            clear z0 hrow hbb
                            go_wp2_with (obtain ⟨b2, hy, hf⟩ := (HROW.out.alloc (.cells #[.slice E j f] 97)).row (by omega)
                                         at_builtin; refine wpList_push (α := List (Int × Int)) _ rfl (.tmp 112) (.tmp 114) 38 rfl w4.heap.size 97 (.slice none 0 0) 24 Tryd.underlying38 infoMoveSS rfl D k m _ bs rfl (HA.out.below (C := wo.heap.size) (by repeat (first | exact Below.refl _ _ | exact Since.out (by assumption) | refine Below.alloc ?_ (by first | omega | (simp only [sz_alloc, sz_set, sz_drew, sz_drewN]; omega) | (simp only [sz_alloc, sz_set, sz_drew, sz_drewN] at *; omega)) _ | refine Below.setCell ?_ (by first | omega | (simp only [sz_alloc, sz_set, sz_drew, sz_drewN]; omega) | (simp only [sz_alloc, sz_set, sz_drew, sz_drewN] at *; omega)) _ | refine Below.drew ?_ | refine below_drewN_ ?_ _)) (Nat.le_refl _)) wi.heap.size 1 rfl (ws.tail.map mvV) [.slice E j f] b2 hy (new_cells (by first | rfl | simp [sz_set])) (fun u hu => by (simp at hu; subst hu; rfl)) ⟨hf.1, fun g hg => ⟨by have := (hf.2 g hg).1; omega, (hf.2 g hg).2⟩⟩ (HA.out.apart hf hzo5) (by omega) (by omega) (by first | omega | (simp only [sz_alloc, sz_set, sz_drew, sz_drewN]; omega) | (simp only [sz_alloc, sz_set, sz_drew, sz_drewN] at *; omega)) ?_
                                         intro D1 d1 w6 hacc hgr hnew
                                         have HS6 : Since w3 w6 := ⟨Acc.since (HA.out.below (C := wo.heap.size) (by repeat (first | exact Below.refl _ _ | exact Since.out (by assumption) | refine Below.alloc ?_ (by first | omega | (simp only [sz_alloc, sz_set, sz_drew, sz_drewN]; omega) | (simp only [sz_alloc, sz_set, sz_drew, sz_drewN] at *; omega)) _ | refine Below.setCell ?_ (by first | omega | (simp only [sz_alloc, sz_set, sz_drew, sz_drewN]; omega) | (simp only [sz_alloc, sz_set, sz_drew, sz_drewN] at *; omega)) _ | refine Below.drew ?_ | refine below_drewN_ ?_ _)) (Nat.le_refl _)) hgr (by repeat (first | exact Below.refl _ _ | exact Since.out (by assumption) | refine Below.alloc ?_ (by first | omega | (simp only [sz_alloc, sz_set, sz_drew, sz_drewN]; omega) | (simp only [sz_alloc, sz_set, sz_drew, sz_drewN] at *; omega)) _ | refine Below.setCell ?_ (by first | omega | (simp only [sz_alloc, sz_set, sz_drew, sz_drewN]; omega) | (simp only [sz_alloc, sz_set, sz_drew, sz_drewN] at *; omega)) _ | refine Below.drew ?_ | refine below_drewN_ ?_ _)) hz4 (by first | omega | (simp only [sz_alloc, sz_set, sz_drew, sz_drewN]; omega) | (simp only [sz_alloc, sz_set, sz_drew, sz_drewN] at *; omega))⟩
                                         have hB1 := (HA.out.below (w' := wi.alloc (.cells #[.slice E j f] 97)) (C := wo.heap.size) (by repeat (first | exact Below.refl _ _ | exact Since.out (by assumption) | refine Below.alloc ?_ (by first | omega | (simp only [sz_alloc, sz_set, sz_drew, sz_drewN]; omega) | (simp only [sz_alloc, sz_set, sz_drew, sz_drewN] at *; omega)) _ | refine Below.setCell ?_ (by first | omega | (simp only [sz_alloc, sz_set, sz_drew, sz_drewN]; omega) | (simp only [sz_alloc, sz_set, sz_drew, sz_drewN] at *; omega)) _ | refine Below.drew ?_ | refine below_drewN_ ?_ _)) (Nat.le_refl _)).box hgr (alloc_block Z0.out hgi) hgl
                                         have f6 : w6.frozen? ⟨g, 2, none⟩ = false := blk_free hB1
                                         have k6 : w6.cell? ⟨g, 2, none⟩ = some (.slice D k m) := cell_of_row w6 _ 2 _ _ (0, 0) hB1
                                         have hg6 : g < w6.heap.size := (Array.getElem?_eq_some_iff.1 hB1).1
                                         have hz6 : w4.heap.size ≤ w6.heap.size := Nat.le_trans (show w4.heap.size ≤ (wi.alloc (.cells #[.slice E j f] 97)).heap.size by simp only [sz_alloc]; omega) hgr.size
                                         have HB1 := Lib.hid hB1
                                         have HA6 := Lib.hid hacc
                                         clear hacc hgr hnew hy hf hB1)
                            go_roundw
                            case rel =>
                              refine ⟨k + 1, D1, d1, bs ++ b2, by omega, by go_num, Lib.hid (blk_set HB1.out _), Lib.hid ?_, Lib.hid (by rw [HTG.out, HAL.out, HGT.out]; rfl), ⟨HS6.out.setCell hg4 _⟩, (by first | omega | (simp only [sz_alloc, sz_set, sz_drew, sz_drewN]; omega) | (simp only [sz_alloc, sz_set, sz_drew, sz_drewN] at *; omega))⟩
                              rw [HT.out, HRN.out]
                              exact HA6.out.setCell (fun a ha => by have := HA6.out.lt a ha; simp; omega) (fun hm => by have := (HA6.out.fresh.2 _ hm).1; simp at this; omega) _
                            case measure => simp [intOf]; omega
                    · obtain rfl : k = nm := by omega
                      have i5 : ¬ (k : Int) + 1 < (n : Int) := by have := HN1.out; omega
                      have i6 : ¬ (k : Int) + 1 + 1 < (n : Int) + 1 := by have := HN1.out; omega
                      obtain ⟨T, hT⟩ : ∃ T, T = tnOf (l0 :: t) := ⟨_, rfl⟩
                      have hTe : T = ⟨va, vc, mid.map rowTV⟩ := by
                        rw [hT]
                        unfold tnOf
                        rw [HHD.out, HV.out, ← HMD.out]
                        rfl
                      have hAL := HAL.out
                      have hA := HA.out
                      rw [List.take_of_length_le (by rw [← HNM.out]; exact Nat.le_refl _)] at hA hAL
                      have hm1 : T.letters = va := by rw [hTe]
                      have hm2 : T.start = vc := by rw [hTe]
                      have hm3 : T.moves = mid.map rowTV := by rw [hTe]
                      have hm4 : T.moves.length = k := by rw [hm3, List.length_map, HNM.out]
                      have htot : T.tot ≤ 1048576 := by
                        have hmm := tot_mid (α := Int × Int) (fun _ => rfl) rowTV (fun x => by show ((splitL 32 x).tail.map mvV).length ≤ _; rw [List.length_map]; exact tail_len x) (HMI.out ▸ HLS.out)
                        show Cod.tot T.moves ≤ _
                        rw [hm3]
                        omega
                      rw [← hm3] at hA
                      obtain ⟨b2, ow2, f2, -⟩ := hA.own
                      have RM : RdS wo wo.heap.size D T.moves := hA.rd
                      have HBOK := Lib.hid (fun (h : T.okB = false) => tnBadOk H20.out HLS.out (hT ▸ h))
                      have HYES := Lib.hid (fun (h : T.okB = true) => tnYes H20.out HLS.out HDG.out (by rw [← HMD.out]; exact hAL) (hT ▸ h))
                      rw [← hT] at HYES
                      clear hm3 hA hTe hAL hT
                      have z0 := HB.out
                      have k0 : wo.cell? ⟨g, 0, none⟩ = some (.int .i64 va) := cell_of_row wo _ 0 _ _ (0, 0) z0
                      have k1 : wo.cell? ⟨g, 1, none⟩ = some (.int .i64 vc) := cell_of_row wo _ 1 _ _ (0, 0) z0
                      have k2 : wo.cell? ⟨g, 2, none⟩ = some (.slice D k m) := cell_of_row wo _ 2 _ _ (0, 0) z0
                      have hgo : g < wo.heap.size := by omega
                      have HM := Lib.hid (And.intro hm1 (And.intro hm2 hm4))
                      clear z0 hm1 hm2 hm4
                      go_wp2_with fail
                      refine (l02Ok g D m T _ (by rw [HM.out.1]; exact k0) (by rw [HM.out.2.1]; exact k1) (by rw [HM.out.2.2]; exact k2) hgo (RM.up (by repeat (first | exact Below.refl _ _ | exact Since.out (by assumption) | refine Below.alloc ?_ (by first | omega | (simp only [sz_alloc, sz_set, sz_drew, sz_drewN]; omega) | (simp only [sz_alloc, sz_set, sz_drew, sz_drewN] at *; omega)) _ | refine Below.setCell ?_ (by first | omega | (simp only [sz_alloc, sz_set, sz_drew, sz_drewN]; omega) | (simp only [sz_alloc, sz_set, sz_drew, sz_drewN] at *; omega)) _ | refine Below.drew ?_ | refine below_drewN_ ?_ _))) htot).mono ?_
                      rintro e w7 ⟨rfl, hb7⟩
                      have HBw7 : Since w w7 := ⟨below_cat (by repeat (first | exact Below.refl _ _ | exact Since.out (by assumption) | refine Below.alloc ?_ (by first | omega | (simp only [sz_alloc, sz_set, sz_drew, sz_drewN]; omega) | (simp only [sz_alloc, sz_set, sz_drew, sz_drewN] at *; omega)) _ | refine Below.setCell ?_ (by first | omega | (simp only [sz_alloc, sz_set, sz_drew, sz_drewN]; omega) | (simp only [sz_alloc, sz_set, sz_drew, sz_drewN] at *; omega)) _ | refine Below.drew ?_ | refine below_drewN_ ?_ _)) hb7 (by first | omega | (simp only [sz_alloc, sz_set, sz_drew, sz_drewN]; omega) | (simp only [sz_alloc, sz_set, sz_drew, sz_drewN] at *; omega))⟩; have hzw7 := hb7.size; (try simp only [sz_alloc, sz_set, sz_drew, sz_drewN] at hzw7); have hcw7k0 := fun o => hb7.cell (p := ⟨w.heap.size, o, none⟩) (by first | omega | (simp only [sz_alloc, sz_set, sz_drew, sz_drewN]; omega) | (simp only [sz_alloc, sz_set, sz_drew, sz_drewN] at *; omega)); have hfw7k0 := fun o => hb7.frozen (p := ⟨w.heap.size, o, none⟩) (by first | omega | (simp only [sz_alloc, sz_set, sz_drew, sz_drewN]; omega) | (simp only [sz_alloc, sz_set, sz_drew, sz_drewN] at *; omega)); have hlw7k0 : w.heap.size < w7.heap.size := (by first | omega | (simp only [sz_alloc, sz_set, sz_drew, sz_drewN]; omega) | (simp only [sz_alloc, sz_set, sz_drew, sz_drewN] at *; omega))
                      have hcw7g := fun o => hb7.cell (p := ⟨g, o, none⟩) (by first | omega | (simp only [sz_alloc, sz_set, sz_drew, sz_drewN]; omega) | (simp only [sz_alloc, sz_set, sz_drew, sz_drewN] at *; omega)); have hfw7g := fun o => hb7.frozen (p := ⟨g, o, none⟩) (by first | omega | (simp only [sz_alloc, sz_set, sz_drew, sz_drewN]; omega) | (simp only [sz_alloc, sz_set, sz_drew, sz_drewN] at *; omega)); have hlw7g : g < _ := Nat.lt_of_lt_of_le (m := _) (by first | omega | (simp only [sz_alloc, sz_set, sz_drew, sz_drewN]; omega) | (simp only [sz_alloc, sz_set, sz_drew, sz_drewN] at *; omega)) hb7.size
                      have S7 : Since wo w7 := ⟨below_cat (by repeat (first | exact Below.refl _ _ | exact Since.out (by assumption) | refine Below.alloc ?_ (by first | omega | (simp only [sz_alloc, sz_set, sz_drew, sz_drewN]; omega) | (simp only [sz_alloc, sz_set, sz_drew, sz_drewN] at *; omega)) _ | refine Below.setCell ?_ (by first | omega | (simp only [sz_alloc, sz_set, sz_drew, sz_drewN]; omega) | (simp only [sz_alloc, sz_set, sz_drew, sz_drewN] at *; omega)) _ | refine Below.drew ?_ | refine below_drewN_ ?_ _)) hb7 (by first | omega | (simp only [sz_alloc, sz_set, sz_drew, sz_drewN]; omega) | (simp only [sz_alloc, sz_set, sz_drew, sz_drewN] at *; omega))⟩
                      cases hok : T.okB with
                      | true =>
                        have HE := Lib.hid (HYES.out hok)
                        clear hok
                        go_wp2
                        have p0 : w7.cell? ⟨w.heap.size, 0, none⟩ = some (.int .i64 0) := by go_simp
                        have p1 : w7.cell? ⟨w.heap.size, 1, none⟩ = some (.int .i64 0) := by go_simp
                        have p2 : w7.cell? ⟨w.heap.size, 2, none⟩ = some (.slice none 0 0) := by go_simp
                        rw [HE.out.1, HE.out.2]
                        refine bodyPost_ret (v := .tuple #[.agg #[.int .i64 va, .int .i64 vc, .slice D k m], .int .i64 0]) (by simp [results, Tryd.results21, go_sem, p0, p1, p2]) rfl
                          ⟨_, b2, rfl, ⟨D, m, b2, by rw [HM.out.1, HM.out.2.1, HM.out.2.2], (ow2.below S7.out (fun g hg => (f2.2 g hg).2)).only (bs' := [w.heap.size]) (by repeat (first | with_reducible exact OnlyB.refl _ _ | with_reducible refine OnlyB.setCell ?_ (by simp) _ | with_reducible refine OnlyB.alloc ?_ _ | with_reducible refine OnlyB.drew ?_ | refine OnlyB.trans ?_ (OnlyB.of_below (by assumption) _))) (fun g hg => ?_), rfl⟩, (f2.low (by first | omega | (simp only [sz_alloc, sz_set, sz_drew, sz_drewN]; omega) | (simp only [sz_alloc, sz_set, sz_drew, sz_drewN] at *; omega))).more (by first | omega | (simp only [sz_alloc, sz_set, sz_drew, sz_drewN]; omega) | (simp only [sz_alloc, sz_set, sz_drew, sz_drewN] at *; omega)), (by repeat (first | exact Below.refl _ _ | exact Since.out (by assumption) | refine Below.alloc ?_ (by first | omega | (simp only [sz_alloc, sz_set, sz_drew, sz_drewN]; omega) | (simp only [sz_alloc, sz_set, sz_drew, sz_drewN] at *; omega)) _ | refine Below.setCell ?_ (by first | omega | (simp only [sz_alloc, sz_set, sz_drew, sz_drewN]; omega) | (simp only [sz_alloc, sz_set, sz_drew, sz_drewN] at *; omega)) _ | refine Below.drew ?_ | refine below_drewN_ ?_ _))⟩
                        have := f2.2 g hg; simp; omega
                      | false =>
                        have HE := Lib.hid (HBOK.out hok)
                        clear hok
                        go_wp2
                        have p0 : w7.cell? ⟨w.heap.size, 0, none⟩ = some (.int .i64 0) := by go_simp
                        have p1 : w7.cell? ⟨w.heap.size, 1, none⟩ = some (.int .i64 0) := by go_simp
                        have p2 : w7.cell? ⟨w.heap.size, 2, none⟩ = some (.slice none 0 0) := by go_simp
                        rw [HE.out.1, HE.out.2]
                        exact bodyPost_ret (v := .tuple #[.agg #[.int .i64 0, .int .i64 0, .slice none 0 0], .int .i64 5]) (by simp [results, Tryd.results21, go_sem, p0, p1, p2]) rfl (tn_err (by repeat (first | exact Below.refl _ _ | exact Since.out (by assumption) | refine Below.alloc ?_ (by first | omega | (simp only [sz_alloc, sz_set, sz_drew, sz_drewN]; omega) | (simp only [sz_alloc, sz_set, sz_drew, sz_drewN] at *; omega)) _ | refine Below.setCell ?_ (by first | omega | (simp only [sz_alloc, sz_set, sz_drew, sz_drewN]; omega) | (simp only [sz_alloc, sz_set, sz_drew, sz_drewN] at *; omega)) _ | refine Below.drew ?_ | refine below_drewN_ ?_ _)))
              · have qL : ((n : Int) + 1 == vb + 2) = false := by rw [beq_eq_false_iff_ne]; exact hL
                have HE := Lib.hid (tnBad H20.out HLS.out (docBad5 (by rw [HHD.out, HV.out, List.length_cons, ← HN.out]; simpa using hL)))
                clear hL
                go_wp2
                have p0 : w3.cell? ⟨w.heap.size, 0, none⟩ = some (.int .i64 0) := by go_simp
                have p1 : w3.cell? ⟨w.heap.size, 1, none⟩ = some (.int .i64 0) := by go_simp
                have p2 : w3.cell? ⟨w.heap.size, 2, none⟩ = some (.slice none 0 0) := by go_simp
                rw [HE.out.1, HE.out.2]
                exact bodyPost_ret (v := .tuple #[.agg #[.int .i64 0, .int .i64 0, .slice none 0 0], .int .i64 5]) (by simp [results, Tryd.results21, go_sem, p0, p1, p2]) rfl (tn_err (by repeat (first | exact Below.refl _ _ | exact Since.out (by assumption) | refine Below.alloc ?_ (by first | omega | (simp only [sz_alloc, sz_set, sz_drew, sz_drewN]; omega) | (simp only [sz_alloc, sz_set, sz_drew, sz_drewN] at *; omega)) _ | refine Below.setCell ?_ (by first | omega | (simp only [sz_alloc, sz_set, sz_drew, sz_drewN]; omega) | (simp only [sz_alloc, sz_set, sz_drew, sz_drewN] at *; omega)) _ | refine Below.drew ?_ | refine below_drewN_ ?_ _)))
            · have qz : (z == []) = false := lst_ne hz0
              have HE := Lib.hid (tnBad H20.out HLS.out (docBad4 (by rw [HLZ.out]; simpa using hz0)))
              clear hz0
              go_wp2
              have p0 : w3.cell? ⟨w.heap.size, 0, none⟩ = some (.int .i64 0) := by go_simp
              have p1 : w3.cell? ⟨w.heap.size, 1, none⟩ = some (.int .i64 0) := by go_simp
              have p2 : w3.cell? ⟨w.heap.size, 2, none⟩ = some (.slice none 0 0) := by go_simp
              rw [HE.out.1, HE.out.2]
              exact bodyPost_ret (v := .tuple #[.agg #[.int .i64 0, .int .i64 0, .slice none 0 0], .int .i64 5]) (by simp [results, Tryd.results21, go_sem, p0, p1, p2]) rfl (tn_err (by repeat (first | exact Below.refl _ _ | exact Since.out (by assumption) | refine Below.alloc ?_ (by first | omega | (simp only [sz_alloc, sz_set, sz_drew, sz_drewN]; omega) | (simp only [sz_alloc, sz_set, sz_drew, sz_drewN] at *; omega)) _ | refine Below.setCell ?_ (by first | omega | (simp only [sz_alloc, sz_set, sz_drew, sz_drewN]; omega) | (simp only [sz_alloc, sz_set, sz_drew, sz_drewN] at *; omega)) _ | refine Below.drew ?_ | refine below_drewN_ ?_ _)))
          · have q3 : ((p : Int) == 3) = false := by
              simp only [beq_eq_false_iff_ne, ne_eq]
              omega
            have q3' : ((p : Int) != 3) = true := by
              simp only [bne_iff_ne, ne_eq]
              omega
            have HE := Lib.hid (tnBad H20.out HLS.out (docBad3 (by rw [HHD.out, ← HP.out]; exact h3)))
            clear h3
            go_wp2
            have p0 : w3.cell? ⟨w.heap.size, 0, none⟩ = some (.int .i64 0) := by go_simp
            have p1 : w3.cell? ⟨w.heap.size, 1, none⟩ = some (.int .i64 0) := by go_simp
            have p2 : w3.cell? ⟨w.heap.size, 2, none⟩ = some (.slice none 0 0) := by go_simp
            rw [HE.out.1, HE.out.2]
            exact bodyPost_ret (v := .tuple #[.agg #[.int .i64 0, .int .i64 0, .slice none 0 0], .int .i64 5]) (by simp [results, Tryd.results21, go_sem, p0, p1, p2]) rfl (tn_err (by repeat (first | exact Below.refl _ _ | exact Since.out (by assumption) | refine Below.alloc ?_ (by first | omega | (simp only [sz_alloc, sz_set, sz_drew, sz_drewN]; omega) | (simp only [sz_alloc, sz_set, sz_drew, sz_drewN] at *; omega)) _ | refine Below.setCell ?_ (by first | omega | (simp only [sz_alloc, sz_set, sz_drew, sz_drewN]; omega) | (simp only [sz_alloc, sz_set, sz_drew, sz_drewN] at *; omega)) _ | refine Below.drew ?_ | refine below_drewN_ ?_ _)))
        · have qw : (w0 == [116, 117, 114, 110, 101, 114]) = false := lst_ne hw
          have HE := Lib.hid (tnBad H20.out HLS.out (docBad2 (by rw [HHD.out, HW0.out]; simpa using hw)))
          clear hw
          go_wp2
          have p0 : w3.cell? ⟨w.heap.size, 0, none⟩ = some (.int .i64 0) := by go_simp
          have p1 : w3.cell? ⟨w.heap.size, 1, none⟩ = some (.int .i64 0) := by go_simp
          have p2 : w3.cell? ⟨w.heap.size, 2, none⟩ = some (.slice none 0 0) := by go_simp
          rw [HE.out.1, HE.out.2]
          exact bodyPost_ret (v := .tuple #[.agg #[.int .i64 0, .int .i64 0, .slice none 0 0], .int .i64 5]) (by simp [results, Tryd.results21, go_sem, p0, p1, p2]) rfl (tn_err (by repeat (first | exact Below.refl _ _ | exact Since.out (by assumption) | refine Below.alloc ?_ (by first | omega | (simp only [sz_alloc, sz_set, sz_drew, sz_drewN]; omega) | (simp only [sz_alloc, sz_set, sz_drew, sz_drewN] at *; omega)) _ | refine Below.setCell ?_ (by first | omega | (simp only [sz_alloc, sz_set, sz_drew, sz_drewN]; omega) | (simp only [sz_alloc, sz_set, sz_drew, sz_drewN] at *; omega)) _ | refine Below.drew ?_ | refine below_drewN_ ?_ _)))
end Go.Proofs.YtelmooaenodfaaaDoor
