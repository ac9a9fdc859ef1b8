/-
  The reference's ReadReader. Conditions: those in each statement.
-/
import Derived.Test.YtelmooaenodfaaaDoorSpDoc
import Derived.Test.YtelmooaenodfaaaDoorRrRd
import Derived.Test.YtelmooaenodfaaaDoorTail2
import Derived.Deep.DeepCutAuto
set_option linter.unusedVariables false
set_option linter.unusedSimpArgs false
set_option maxRecDepth 100000
set_option maxHeartbeats 1000000
namespace Go.Proofs.YtelmooaenodfaaaDoor
open Go.RowKit

def rowNV (x : List UInt8) : List Int := numsV (splitL 32 x).tail
theorem OwnS.pushR {α : Type} [Cod α] {w : World} {A : Option Addr} {xs : List α} {bs : List Nat} {B : Nat} (h : OwnS w A xs bs) (f : Fresh B w bs) (o : Obj) : OwnS (w.alloc o) A xs bs :=
  h.below ((Below.refl _ _).alloc (Nat.le_refl _) o) fun g hg => (f.2 g hg).2

set_option maxHeartbeats 8000000 in
theorem readReader_spec (l : List UInt8) (w : World) (hl : l.length ≤ 1048576) : Calls Tryd.prog 16 #[.string (str l)] w (RetRrC (rdC l) (rdCode l) w) := by
  have hsz := str_size l
  have us : ¬ 9223372036854775807 < (str l).size := by rw [str_size]; omega
  have tl := str_list
  by_cases h20 : 20000 < l.length
  · have hC : rdC l = ⟨0, 0, [], []⟩ := by unfold rdC; rw [if_pos h20]
    have hD : rdCode l = 2 := by unfold rdCode; rw [if_pos h20]
    rw [hC, hD]
    have i1 : (20000 : Int) < (l.length : Int) := by omega
    clear hC hD h20
    go_enter Tryd.func16, Tryd.ntmps16
    go_wp2
    exact bodyPost_ret (v := .tuple #[.agg #[.int .i64 0, .int .i64 0, .slice none 0 0, .slice none 0 0], .int .i64 2]) (by simp [results, Tryd.results16, go_sem]) rfl (rr_err (by repeat (first | exact Below.refl _ _ | refine Below.alloc ?_ (by first | omega | (simp only [sz_alloc, sz_set, sz_drew, sz_drewN]; omega) | (simp only [sz_alloc, sz_set, sz_drew, sz_drewN] at *; omega)) _ | refine Below.setCell ?_ (by first | omega | (simp only [sz_alloc, sz_set, sz_drew, sz_drewN]; omega) | (simp only [sz_alloc, sz_set, sz_drew, sz_drewN] at *; omega)) _ | refine Below.drew ?_ | refine below_drewN_ ?_ _)))
  · have i1 : ¬ (20000 : Int) < (l.length : Int) := by omega
    have hl2 : l.length ≤ 20000 := by omega
    have HS := Lib.hid (fun W => split_spec l 10 10 rfl W hl)
    have hin : ∀ x ∈ splitL 10 l, x.length ≤ l.length := splitL_in 10 l
    have hlen := splitL_len 10 l
    have hne := splitL_ne 10 l
    have H20 := Lib.hid h20
    obtain ⟨ls, hls⟩ : ∃ ls, ls = splitL 10 l := ⟨_, rfl⟩
    rw [← hls] at hin hlen hne HS
    have HLS := Lib.hid hls
    clear hls h20
    cases ls with
    | nil => exact absurd rfl hne
    | cons l0 t =>
      have h0l := hin l0 (List.mem_cons_self ..)
      have HIN := Lib.hid hin
      have HH := Lib.hid (fun W => split_spec l0 32 32 rfl W (by omega))
      have hhl := splitL_len 32 l0
      have hhne := List.length_pos_iff.2 (splitL_ne 32 l0)
      have hhin : ∀ x ∈ splitL 32 l0, x.length ≤ 1048576 := fun x hx => by have := splitL_in 32 l0 x hx; omega
      obtain ⟨hd, hhd⟩ : ∃ hd, hd = splitL 32 l0 := ⟨_, rfl⟩
      have HHD : Hid (hdOf (l0 :: t) = hd) := Lib.hid hhd.symm
      rw [← hhd] at HH hhl hhne hhin
      obtain ⟨w0, hw0⟩ := get_some hhne
      have hw0b := bs_get hw0
      have HW0 := Lib.hid hw0
      obtain ⟨p, hp⟩ : ∃ p, p = hd.tail.length := ⟨_, rfl⟩
      have hp1 : hd.length = p + 1 := by rw [hp, List.length_tail]; omega
      obtain ⟨n, hn⟩ : ∃ n, n = t.length := ⟨_, rfl⟩
      have HN := Lib.hid hn
      have HP := Lib.hid hp
      have hvl : (numsV hd.tail).length = p := by rw [hp]; unfold numsV; rw [List.length_map]
      have HVL := Lib.hid hvl
      rw [List.length_cons, ← hn] at hlen
      have HS : Hid (∀ W, Calls Tryd.prog 44 #[.string (str l), .int .u8 10] W fun e w' => ∃ A c, e = .returned (.slice A (n + 1) c) ∧ RdS w' w'.heap.size A ((l0 :: t).map Bs.mk) ∧ Below W.heap.size W w') := Lib.hid (fun W => (HS.out W).mono fun e w' ⟨A, c, h1, h2, h3, h4⟩ => ⟨A, c, by rw [hn]; exact h1, h2, h4⟩)
      have HH : Hid (∀ W, Calls Tryd.prog 44 #[.string (str l0), .int .u8 32] W fun e w' => ∃ A c, e = .returned (.slice A (p + 1) c) ∧ RdS w' w'.heap.size A (hd.map Bs.mk) ∧ Below W.heap.size W w') := Lib.hid (fun W => (HH.out W).mono fun e w' ⟨A, c, h1, h2, h3, h4⟩ => ⟨A, c, by rw [← hp1]; exact h1, h2, h4⟩)
      have HNS : Hid (∀ A c W, RdS W W.heap.size A (hd.map Bs.mk) → Calls Tryd.prog 54 #[.slice A (p + 1) c, .int .i64 1] W (RetNums hd.tail W)) := Lib.hid (fun A c W r => by rw [← hp1]; exact numbers_spec A c hd W r (by omega) (by omega) hhin)
      have HP1 := Lib.hid hp1
      have hlast : ∃ z, (l0 :: t)[n]? = some z := get_some (by rw [hn]; simp)
      obtain ⟨z, hz⟩ := hlast
      have HLZ : Hid ((l0 :: t).getLast? = some z) := Lib.hid (by rw [List.getLast?_eq_getElem?, ← hz, hn]; rfl)
      have hzb := bs_get hz
      clear hin hne hhin hhd hw0 hp hn hz hvl hp1 hhne
      go_enter Tryd.func16, Tryd.ntmps16
      go_wp2_with fail
      refine (HS.out _).mono ?_
      rintro e w1 ⟨A1, m1, rfl, r, hb1⟩
      have HBw1 : Since w w1 := ⟨below_cat (by repeat (first | exact Below.refl _ _ | exact Since.out (by assumption) | refine Below.alloc ?_ (by first | omega | (simp only [sz_alloc, sz_set, sz_drew, sz_drewN]; omega) | (simp only [sz_alloc, sz_set, sz_drew, sz_drewN] at *; omega)) _ | refine Below.setCell ?_ (by first | omega | (simp only [sz_alloc, sz_set, sz_drew, sz_drewN]; omega) | (simp only [sz_alloc, sz_set, sz_drew, sz_drewN] at *; omega)) _ | refine Below.drew ?_ | refine below_drewN_ ?_ _)) hb1 (by first | omega | (simp only [sz_alloc, sz_set, sz_drew, sz_drewN]; omega) | (simp only [sz_alloc, sz_set, sz_drew, sz_drewN] at *; omega))⟩; have hzw1 := hb1.size; (try simp only [sz_alloc, sz_set, sz_drew, sz_drewN] at hzw1); have hcw1k0 := fun o => hb1.cell (p := ⟨w.heap.size, o, none⟩) (by first | omega | (simp only [sz_alloc, sz_set, sz_drew, sz_drewN]; omega) | (simp only [sz_alloc, sz_set, sz_drew, sz_drewN] at *; omega)); have hfw1k0 := fun o => hb1.frozen (p := ⟨w.heap.size, o, none⟩) (by first | omega | (simp only [sz_alloc, sz_set, sz_drew, sz_drewN]; omega) | (simp only [sz_alloc, sz_set, sz_drew, sz_drewN] at *; omega)); have hlw1k0 : w.heap.size < w1.heap.size := (by first | omega | (simp only [sz_alloc, sz_set, sz_drew, sz_drewN]; omega) | (simp only [sz_alloc, sz_set, sz_drew, sz_drewN] at *; omega))
      obtain ⟨g1, o1, rfl, hg1, c1⟩ := r.bs (bs_get (k := 0) (x := l0) rfl)
      rw [Nat.add_zero] at c1
      obtain ⟨g', o', e', _, cz⟩ := r.bs hzb
      cases e'
      go_wp2_with fail
      refine (HH.out _).mono ?_
      rintro e w2 ⟨A2, m2, rfl, r2, hb2⟩
      have HBw2 : Since w w2 := ⟨below_cat (by repeat (first | exact Below.refl _ _ | exact Since.out (by assumption) | refine Below.alloc ?_ (by first | omega | (simp only [sz_alloc, sz_set, sz_drew, sz_drewN]; omega) | (simp only [sz_alloc, sz_set, sz_drew, sz_drewN] at *; omega)) _ | refine Below.setCell ?_ (by first | omega | (simp only [sz_alloc, sz_set, sz_drew, sz_drewN]; omega) | (simp only [sz_alloc, sz_set, sz_drew, sz_drewN] at *; omega)) _ | refine Below.drew ?_ | refine below_drewN_ ?_ _)) hb2 (by first | omega | (simp only [sz_alloc, sz_set, sz_drew, sz_drewN]; omega) | (simp only [sz_alloc, sz_set, sz_drew, sz_drewN] at *; omega))⟩; have hzw2 := hb2.size; (try simp only [sz_alloc, sz_set, sz_drew, sz_drewN] at hzw2); have hcw2k0 := fun o => hb2.cell (p := ⟨w.heap.size, o, none⟩) (by first | omega | (simp only [sz_alloc, sz_set, sz_drew, sz_drewN]; omega) | (simp only [sz_alloc, sz_set, sz_drew, sz_drewN] at *; omega)); have hfw2k0 := fun o => hb2.frozen (p := ⟨w.heap.size, o, none⟩) (by first | omega | (simp only [sz_alloc, sz_set, sz_drew, sz_drewN]; omega) | (simp only [sz_alloc, sz_set, sz_drew, sz_drewN] at *; omega)); have hlw2k0 : w.heap.size < w2.heap.size := (by first | omega | (simp only [sz_alloc, sz_set, sz_drew, sz_drewN]; omega) | (simp only [sz_alloc, sz_set, sz_drew, sz_drewN] at *; omega))
      have S12 : Since w1 w2 := ⟨hb2⟩
      have S22 : Since w2 w2 := ⟨Below.refl _ _⟩
      obtain ⟨g2, o2, rfl, hg2, c2⟩ := r2.bs hw0b
      rw [Nat.add_zero] at c2
      clear hzb hw0b c1
      go_wp2_with fail
      refine (HNS.out _ _ _ (r2.up (by repeat (first | exact Below.refl _ _ | exact Since.out (by assumption) | refine Below.alloc ?_ (by first | omega | (simp only [sz_alloc, sz_set, sz_drew, sz_drewN]; omega) | (simp only [sz_alloc, sz_set, sz_drew, sz_drewN] at *; omega)) _ | refine Below.setCell ?_ (by first | omega | (simp only [sz_alloc, sz_set, sz_drew, sz_drewN]; omega) | (simp only [sz_alloc, sz_set, sz_drew, sz_drewN] at *; omega)) _ | refine Below.drew ?_ | refine below_drewN_ ?_ _)))).mono ?_
      rintro e w3 ⟨A3, m3, bs3, ys, rfl, hy, hyl, oy, fy, hb3⟩
      have HBw3 : Since w w3 := ⟨below_cat (by repeat (first | exact Below.refl _ _ | exact Since.out (by assumption) | refine Below.alloc ?_ (by first | omega | (simp only [sz_alloc, sz_set, sz_drew, sz_drewN]; omega) | (simp only [sz_alloc, sz_set, sz_drew, sz_drewN] at *; omega)) _ | refine Below.setCell ?_ (by first | omega | (simp only [sz_alloc, sz_set, sz_drew, sz_drewN]; omega) | (simp only [sz_alloc, sz_set, sz_drew, sz_drewN] at *; omega)) _ | refine Below.drew ?_ | refine below_drewN_ ?_ _)) hb3 (by first | omega | (simp only [sz_alloc, sz_set, sz_drew, sz_drewN]; omega) | (simp only [sz_alloc, sz_set, sz_drew, sz_drewN] at *; omega))⟩; have hzw3 := hb3.size; (try simp only [sz_alloc, sz_set, sz_drew, sz_drewN] at hzw3); have hcw3k0 := fun o => hb3.cell (p := ⟨w.heap.size, o, none⟩) (by first | omega | (simp only [sz_alloc, sz_set, sz_drew, sz_drewN]; omega) | (simp only [sz_alloc, sz_set, sz_drew, sz_drewN] at *; omega)); have hfw3k0 := fun o => hb3.frozen (p := ⟨w.heap.size, o, none⟩) (by first | omega | (simp only [sz_alloc, sz_set, sz_drew, sz_drewN]; omega) | (simp only [sz_alloc, sz_set, sz_drew, sz_drewN] at *; omega)); have hlw3k0 : w.heap.size < w3.heap.size := (by first | omega | (simp only [sz_alloc, sz_set, sz_drew, sz_drewN]; omega) | (simp only [sz_alloc, sz_set, sz_drew, sz_drewN] at *; omega))
      have S13 : Since w1 w3 := ⟨below_cat (by repeat (first | exact Below.refl _ _ | exact Since.out (by assumption) | refine Below.alloc ?_ (by first | omega | (simp only [sz_alloc, sz_set, sz_drew, sz_drewN]; omega) | (simp only [sz_alloc, sz_set, sz_drew, sz_drewN] at *; omega)) _ | refine Below.setCell ?_ (by first | omega | (simp only [sz_alloc, sz_set, sz_drew, sz_drewN]; omega) | (simp only [sz_alloc, sz_set, sz_drew, sz_drewN] at *; omega)) _ | refine Below.drew ?_ | refine below_drewN_ ?_ _)) hb3 (by first | omega | (simp only [sz_alloc, sz_set, sz_drew, sz_drewN]; omega) | (simp only [sz_alloc, sz_set, sz_drew, sz_drewN] at *; omega))⟩
      have S23 : Since w2 w3 := ⟨below_cat (by repeat (first | exact Below.refl _ _ | exact Since.out (by assumption) | refine Below.alloc ?_ (by first | omega | (simp only [sz_alloc, sz_set, sz_drew, sz_drewN]; omega) | (simp only [sz_alloc, sz_set, sz_drew, sz_drewN] at *; omega)) _ | refine Below.setCell ?_ (by first | omega | (simp only [sz_alloc, sz_set, sz_drew, sz_drewN]; omega) | (simp only [sz_alloc, sz_set, sz_drew, sz_drewN] at *; omega)) _ | refine Below.drew ?_ | refine below_drewN_ ?_ _)) hb3 (by first | omega | (simp only [sz_alloc, sz_set, sz_drew, sz_drewN]; omega) | (simp only [sz_alloc, sz_set, sz_drew, sz_drewN] at *; omega))⟩
      have S33 : Since w3 w3 := ⟨Below.refl _ _⟩
      have cz3 := (S13.out.cell (p := ⟨g1, o1 + n, none⟩) hg1).trans cz
      have c23 := (S23.out.cell (p := ⟨g2, o2, none⟩) hg2).trans c2
      have hg13 : g1 < w3.heap.size := by omega
      have hg23 : g2 < w3.heap.size := by omega
      clear r2 cz c2
      cases hG : numsOk hd.tail with
      | false =>
        have HE := Lib.hid (rdBad H20.out HLS.out (docBad1 (by rw [HHD.out]; exact hG)))
        clear hG hy
        go_wp2
        have p0 : w3.cell? ⟨w.heap.size, 0, none⟩ = some (.int .i64 0) := by go_simp
        have p1 : w3.cell? ⟨w.heap.size, 1, none⟩ = some (.int .i64 0) := by go_simp
        have p2 : w3.cell? ⟨w.heap.size, 2, none⟩ = some (.slice none 0 0) := by go_simp
        have p3 : w3.cell? ⟨w.heap.size, 3, none⟩ = some (.slice none 0 0) := by go_simp
        rw [HE.out.1, HE.out.2]
        exact bodyPost_ret (v := .tuple #[.agg #[.int .i64 0, .int .i64 0, .slice none 0 0, .slice none 0 0], .int .i64 5]) (by simp [results, Tryd.results16, go_sem, p0, p1, p2, p3]) rfl (rr_err (by repeat (first | exact Below.refl _ _ | exact Since.out (by assumption) | refine Below.alloc ?_ (by first | omega | (simp only [sz_alloc, sz_set, sz_drew, sz_drewN]; omega) | (simp only [sz_alloc, sz_set, sz_drew, sz_drewN] at *; omega)) _ | refine Below.setCell ?_ (by first | omega | (simp only [sz_alloc, sz_set, sz_drew, sz_drewN]; omega) | (simp only [sz_alloc, sz_set, sz_drew, sz_drewN] at *; omega)) _ | refine Below.drew ?_ | refine below_drewN_ ?_ _)))
      | true =>
        obtain rfl := hy hG
        have RY : RdS w3 w3.heap.size A3 (numsV hd.tail) := oy.rd fun g hg => (fy.2 g hg).2
        rw [HVL.out]
        have HGG := Lib.hid hG
        clear hG hy oy fy
        by_cases hw : w0 = readerT
        · have qw : (w0 == [114, 101, 97, 100, 101, 114]) = true := lst_eq hw
          have HWW := Lib.hid hw
          clear hw
          by_cases h3 : p = 3
          · subst h3
            by_cases hz0 : z = []
            · have qz : (z == []) = true := lst_eq hz0
              obtain ⟨va, vb, vc, hv⟩ : ∃ va vb vc, numsV hd.tail = [va, vb, vc] := by
                have := HVL.out
                match numsV hd.tail, this with
                | [a, b, c], _ => exact ⟨a, b, c, rfl⟩
              obtain ⟨g3, o3, rfl, hg3, k0⟩ := RY.int (k := 0) (x := va) (by rw [hv]; rfl)
              obtain ⟨g', o', e', _, k1⟩ := RY.int (k := 1) (x := vb) (by rw [hv]; rfl)
              cases e'
              obtain ⟨g', o', e', _, k2⟩ := RY.int (k := 2) (x := vc) (by rw [hv]; rfl)
              cases e'
              rw [Nat.add_zero] at k0
              have hvb : 0 ≤ vb ∧ vb < 1000000000 := by
                have h1 : (numsV hd.tail)[1]? = some vb := by rw [hv]; rfl
                unfold numsV at h1
                rw [List.getElem?_map, Option.map_eq_some_iff] at h1
                obtain ⟨y, _, rfl⟩ := h1
                exact numV_bound y
              have hvw : IntKind.i64.wrap (vb + 2) = vb + 2 := by rw [IntKind.wrap_i64]; omega
              have hvw2 : wrap64 (vb + 2) = vb + 2 := by unfold wrap64; omega
              have HV := Lib.hid hv
              have HZ0 := Lib.hid hz0
              obtain ⟨hvb0, hvb1⟩ := hvb
              clear hv hz0 RY
              by_cases hL : (n : Int) + 1 = vb + 2
              · have qL : ((n : Int) + 1 == vb + 2) = true := by rw [beq_iff_eq]; exact hL
                have HLL := Lib.hid hL
                clear hL
                go_wp2
                go_wp2
                go_cut [8] (fun s8 wx => ∃ g : Nat, s8 = .pointer (some ⟨g, 0, none⟩) ∧ Hid (wx.heap[g]? = some (.cells #[.int .i64 va, .int .i64 vc, .slice none 0 0, .slice none 0 0] 33 (0, 0))) ∧ w3.heap.size ≤ g ∧ Since w3 wx)
                case first =>
                  refine Held.begin (fun w' => w'.cell? ⟨g3, o3, none⟩ = some (.int .i64 va) ∧ w'.cell? ⟨g3, o3 + 2, none⟩ = some (.int .i64 vc)) 8 (by kernel_rfl) (by (try dsimp only); (first | (go_keep; done) | (and_intros <;> go_simp))) (fun hHeld => ?_); (first | (refine Held.take (i := 0) (v := undef) (by (simp only [List.getElem?_toArray, List.getElem?_cons_succ, List.getElem?_cons_zero]); exact rfl) (by decide) (by kernel_rfl) (by kernel_rfl) (by kernel_rfl) (by kernel_rfl) (by exact fun _ _ _ h => h) (by exact Or.inr ⟨by rfl, rfl⟩) (by assumption) ?_) | (refine Held.take (i := 0) (v := ?_) (by (simp only [List.getElem?_toArray, List.getElem?_cons_succ, List.getElem?_cons_zero]); exact rfl) (by decide) (by kernel_rfl) (by kernel_rfl) (by kernel_rfl) (by kernel_rfl) (by exact fun _ _ _ h => h) (by refine Or.inl ⟨by rfl, ?_⟩; intro wS hSw; (try dsimp only at hSw); go_simp; (try with_reducible rfl)) (by assumption) ?_)); (try simp only [Act.put, List.setIfInBounds_toArray, List.set_cons_zero, List.set_cons_succ]); (first | (refine Held.take (i := 1) (v := undef) (by (simp only [List.getElem?_toArray, List.getElem?_cons_succ, List.getElem?_cons_zero]); exact rfl) (by decide) (by kernel_rfl) (by kernel_rfl) (by kernel_rfl) (by kernel_rfl) (by exact fun _ _ _ h => h) (by exact Or.inr ⟨by rfl, rfl⟩) (by assumption) ?_) | (refine Held.take (i := 1) (v := ?_) (by (simp only [List.getElem?_toArray, List.getElem?_cons_succ, List.getElem?_cons_zero]); exact rfl) (by decide) (by kernel_rfl) (by kernel_rfl) (by kernel_rfl) (by kernel_rfl) (by exact fun _ _ _ h => h) (by refine Or.inl ⟨by rfl, ?_⟩; intro wS hSw; (try dsimp only at hSw); go_simp; (try with_reducible rfl)) (by assumption) ?_)); (try simp only [Act.put, List.setIfInBounds_toArray, List.set_cons_zero, List.set_cons_succ]); (first | (refine Held.take (i := 2) (v := undef) (by (simp only [List.getElem?_toArray, List.getElem?_cons_succ, List.getElem?_cons_zero]); exact rfl) (by decide) (by kernel_rfl) (by kernel_rfl) (by kernel_rfl) (by kernel_rfl) (by exact fun _ _ _ h => h) (by exact Or.inr ⟨by rfl, rfl⟩) (by assumption) ?_) | (refine Held.take (i := 2) (v := ?_) (by (simp only [List.getElem?_toArray, List.getElem?_cons_succ, List.getElem?_cons_zero]); exact rfl) (by decide) (by kernel_rfl) (by kernel_rfl) (by kernel_rfl) (by kernel_rfl) (by exact fun _ _ _ h => h) (by refine Or.inl ⟨by rfl, ?_⟩; intro wS hSw; (try dsimp only at hSw); go_simp; (try with_reducible rfl)) (by assumption) ?_)); (try simp only [Act.put, List.setIfInBounds_toArray, List.set_cons_zero, List.set_cons_succ]); (first | (refine Held.take (i := 3) (v := undef) (by (simp only [List.getElem?_toArray, List.getElem?_cons_succ, List.getElem?_cons_zero]); exact rfl) (by decide) (by kernel_rfl) (by kernel_rfl) (by kernel_rfl) (by kernel_rfl) (by exact fun _ _ _ h => h) (by exact Or.inr ⟨by rfl, rfl⟩) (by assumption) ?_) | (refine Held.take (i := 3) (v := ?_) (by (simp only [List.getElem?_toArray, List.getElem?_cons_succ, List.getElem?_cons_zero]); exact rfl) (by decide) (by kernel_rfl) (by kernel_rfl) (by kernel_rfl) (by kernel_rfl) (by exact fun _ _ _ h => h) (by refine Or.inl ⟨by rfl, ?_⟩; intro wS hSw; (try dsimp only at hSw); go_simp; (try with_reducible rfl)) (by assumption) ?_)); (try simp only [Act.put, List.setIfInBounds_toArray, List.set_cons_zero, List.set_cons_succ]); (first | (refine Held.take (i := 4) (v := undef) (by (simp only [List.getElem?_toArray, List.getElem?_cons_succ, List.getElem?_cons_zero]); exact rfl) (by decide) (by kernel_rfl) (by kernel_rfl) (by kernel_rfl) (by kernel_rfl) (by exact fun _ _ _ h => h) (by exact Or.inr ⟨by rfl, rfl⟩) (by assumption) ?_) | (refine Held.take (i := 4) (v := ?_) (by (simp only [List.getElem?_toArray, List.getElem?_cons_succ, List.getElem?_cons_zero]); exact rfl) (by decide) (by kernel_rfl) (by kernel_rfl) (by kernel_rfl) (by kernel_rfl) (by exact fun _ _ _ h => h) (by refine Or.inl ⟨by rfl, ?_⟩; intro wS hSw; (try dsimp only at hSw); go_simp; (try with_reducible rfl)) (by assumption) ?_)); (try simp only [Act.put, List.setIfInBounds_toArray, List.set_cons_zero, List.set_cons_succ]); (first | (refine Held.take (i := 5) (v := undef) (by (simp only [List.getElem?_toArray, List.getElem?_cons_succ, List.getElem?_cons_zero]); exact rfl) (by decide) (by kernel_rfl) (by kernel_rfl) (by kernel_rfl) (by kernel_rfl) (by exact fun _ _ _ h => h) (by exact Or.inr ⟨by rfl, rfl⟩) (by assumption) ?_) | (refine Held.take (i := 5) (v := ?_) (by (simp only [List.getElem?_toArray, List.getElem?_cons_succ, List.getElem?_cons_zero]); exact rfl) (by decide) (by kernel_rfl) (by kernel_rfl) (by kernel_rfl) (by kernel_rfl) (by exact fun _ _ _ h => h) (by refine Or.inl ⟨by rfl, ?_⟩; intro wS hSw; (try dsimp only at hSw); go_simp; (try with_reducible rfl)) (by assumption) ?_)); (try simp only [Act.put, List.setIfInBounds_toArray, List.set_cons_zero, List.set_cons_succ]); (first | (refine Held.take (i := 6) (v := undef) (by (simp only [List.getElem?_toArray, List.getElem?_cons_succ, List.getElem?_cons_zero]); exact rfl) (by decide) (by kernel_rfl) (by kernel_rfl) (by kernel_rfl) (by kernel_rfl) (by exact fun _ _ _ h => h) (by exact Or.inr ⟨by rfl, rfl⟩) (by assumption) ?_) | (refine Held.take (i := 6) (v := ?_) (by (simp only [List.getElem?_toArray, List.getElem?_cons_succ, List.getElem?_cons_zero]); exact rfl) (by decide) (by kernel_rfl) (by kernel_rfl) (by kernel_rfl) (by kernel_rfl) (by exact fun _ _ _ h => h) (by refine Or.inl ⟨by rfl, ?_⟩; intro wS hSw; (try dsimp only at hSw); go_simp; (try with_reducible rfl)) (by assumption) ?_)); (try simp only [Act.put, List.setIfInBounds_toArray, List.set_cons_zero, List.set_cons_succ]); refine Held.one (i := 7) (by (simp only [List.getElem?_toArray, List.getElem?_cons_succ, List.getElem?_cons_zero]); exact rfl) (by kernel_rfl) (fun K hK => ?_); go_simp; refine hK.out _ _ (by (try dsimp only); (first | (go_keep; done) | (and_intros <;> go_simp))) (fun hHeld => ?_); clear hK K; (try simp only [Act.put, List.setIfInBounds_toArray, List.set_cons_zero, List.set_cons_succ]); refine Held.last (i := 8) (by (simp only [List.getElem?_toArray, List.getElem?_cons_succ, List.getElem?_cons_zero]); exact rfl) (by decide) (by kernel_rfl) (fun K hK => ?_); go_simp; refine hK.out _ _ ?_; clear hK K; (try simp only [Act.put, List.setIfInBounds_toArray, List.set_cons_zero, List.set_cons_succ]); refine Held.done (by kernel_rfl) ?_ _
                  go_wp2_with fail
                  go_meet
                  exact ⟨_, rfl, Lib.hid (by repeat (first | (with_reducible exact new_block rfl) | ((with_reducible refine new_block ?_); (focus (simp only [sz_alloc, sz_set, sz_drew, sz_drewN]; done))) | ((with_reducible refine blk_fill4 (cur := #[.int .i64 0 , .int .i64 0 , .slice none 0 0 , .slice none 0 0]) ?_ ?_); rotate_left; (focus (rfl; done))) | ((with_reducible refine blk_far ?_ ?_ _); rotate_left; (focus ((try simp only [ne_eq]); omega; done))) | ((with_reducible refine alloc_block ?_ ?_); rotate_left; (focus (first | omega | (simp only [sz_alloc, sz_set, sz_drew, sz_drewN]; omega) | (simp only [sz_alloc, sz_set, sz_drew, sz_drewN] at *; omega); done))) | rw [heap_drew] | ((with_reducible refine (Below.block hb3 _ ?_).trans ?_); (focus (first | omega | (simp only [sz_alloc, sz_set, sz_drew, sz_drewN]; omega) | (simp only [sz_alloc, sz_set, sz_drew, sz_drewN] at *; omega); done))))), (by first | omega | (simp only [sz_alloc, sz_set, sz_drew, sz_drewN]; omega) | (simp only [sz_alloc, sz_set, sz_drew, sz_drewN] at *; omega)), ⟨(by repeat (first | exact Below.refl _ _ | refine Below.alloc ?_ (by first | omega | (simp only [sz_alloc, sz_set, sz_drew, sz_drewN]; omega) | (simp only [sz_alloc, sz_set, sz_drew, sz_drewN] at *; omega)) _ | refine Below.setCell ?_ (by first | omega | (simp only [sz_alloc, sz_set, sz_drew, sz_drewN]; omega) | (simp only [sz_alloc, sz_set, sz_drew, sz_drewN] at *; omega)) _ | refine Below.drew ?_ | refine below_drewN_ ?_ _))⟩⟩
                case rest =>
                  obtain ⟨g, rfl, HG, hg4, HQ4⟩ := hcut
                  obtain ⟨w4, rfl⟩ : ∃ x, x = wc := ⟨_, rfl⟩
                  have hgl : g < w4.heap.size := (Array.getElem?_eq_some_iff.1 HG.out).1
                  have hz4 := HQ4.out.size
                  have hdg : docGood readerT (l0 :: t) = true := docYes (by rw [HHD.out]; exact HGG.out) (by rw [HHD.out, HW0.out, HWW.out]) (by rw [HHD.out, ← HP.out]) (by rw [HLZ.out, HZ0.out]) (by
                    have := HLL.out
                    rw [HHD.out, HV.out, List.length_cons, ← HN.out]
                    simpa using this)
                  have hmid : t = midOf (l0 :: t) ++ [[]] := by
                    obtain ⟨hd', ws', h1, -⟩ := docGood_of hdg
                    injection h1
                  obtain ⟨mid, hmd⟩ : ∃ mid, mid = midOf (l0 :: t) := ⟨_, rfl⟩
                  rw [← hmd] at hmid
                  obtain ⟨nm, hnm⟩ : ∃ nm, nm = mid.length := ⟨_, rfl⟩
                  have hn1 : n = nm + 1 := by
                    have h := congrArg List.length hmid
                    rw [← HN.out, List.length_append, ← hnm] at h
                    exact h
                  have hmget : ∀ k x, mid[k]? = some x → (l0 :: t)[k + 1]? = some x := fun k x hx => by
                    rw [List.getElem?_cons_succ, hmid, List.getElem?_append_left (List.getElem?_eq_some_iff.1 hx).1]
                    exact hx
                  have HMG := Lib.hid hmget
                  have HMD := Lib.hid hmd
                  have HNM := Lib.hid hnm
                  have HMI := Lib.hid hmid
                  have HDG := Lib.hid hdg
                  have hnl : nm ≤ 1048576 := by omega
                  have HN1 := Lib.hid hn1
                  have hwl : w.heap.size < w1.heap.size := hlw1k0
                  have hz13 := S13.out.size
                  clear hmid hmd hnm hmget hdg cz3 c23 k0 k1 k2 hn1
                  go_wp2
                  go_loopw [9] (fun i wr => ∃ (k : Nat) (A : Option Addr) (c : Nat) (D : Option Addr) (m : Nat) (bs : List Nat), k ≤ nm ∧ i = .int .i64 ((k + 1 : Nat) : Int) ∧ Hid (wr.heap[g]? = some (.cells #[.int .i64 va, .int .i64 vc, .slice A k c, .slice D k m] 33 (0, 0))) ∧ Hid (AccN wr w4.heap.size 4 83 A k c ((mid.take k).map rowYes) D k m ((mid.take k).map rowNV) bs) ∧ Hid ((mid.take k).all rowGood = true) ∧ Since w3 wr ∧ w4.heap.size ≤ wr.heap.size) (fun i _ => nm + 1 - (intOf i).toNat)
                  case atStart => exact ⟨0, none, 0, none, 0, [], Nat.zero_le _, rfl, HG, Lib.hid (AccN.nil_ _ _ _ _), Lib.hid rfl, HQ4, Nat.le_refl _⟩
                  case round =>
                    obtain ⟨k, A, c, D, m, bs, hk, rfl, HB, HA, HAL, hs, hzr⟩ := hrel
                    obtain ⟨wo, rfl⟩ : ∃ wo, wo = wr := ⟨_, rfl⟩
                    have hzo := hs.out.size
                    have HSo1 : Since w1 wo := ⟨S13.out.trans (hs.out.mono hz13)⟩
                    have HSw : Since w wo := ⟨HBw3.out.trans (hs.out.mono HBw3.out.size)⟩
                    have HSoo : Since wo wo := ⟨Below.refl _ _⟩
                    have hwo : w.heap.size < wo.heap.size := by omega
                    have q0 : wo.cell? ⟨w.heap.size, 0, none⟩ = some (.int .i64 0) := (HSo1.out.cell (p := ⟨w.heap.size, 0, none⟩) hwl).trans (by go_simp)
                    have q1 : wo.cell? ⟨w.heap.size, 1, none⟩ = some (.int .i64 0) := (HSo1.out.cell (p := ⟨w.heap.size, 1, none⟩) hwl).trans (by go_simp)
                    have q2 : wo.cell? ⟨w.heap.size, 2, none⟩ = some (.slice none 0 0) := (HSo1.out.cell (p := ⟨w.heap.size, 2, none⟩) hwl).trans (by go_simp)
                    have q3 : wo.cell? ⟨w.heap.size, 3, none⟩ = some (.slice none 0 0) := (HSo1.out.cell (p := ⟨w.heap.size, 3, none⟩) hwl).trans (by go_simp)
                    have qf : ∀ o, wo.frozen? ⟨w.heap.size, o, none⟩ = (w.alloc (.cells #[.int .i64 0, .int .i64 0, .slice none 0 0, .slice none 0 0] 33)).frozen? ⟨w.heap.size, o, none⟩ := fun o => (HSo1.out.frozen (p := ⟨w.heap.size, o, none⟩) hwl).trans (hfw1k0 o)
                    by_cases hlt : k < nm
                    · obtain ⟨x, hx⟩ := get_some (xs := mid) (k := k) (by rw [← HNM.out]; exact hlt)
                      have hmx := List.mem_of_getElem? hx
                      have hgx := HMG.out k x hx
                      have hxl := HIN.out x (List.mem_of_getElem? hgx)
                      have HT : Hid ((mid.take (k + 1)).map rowNV = (mid.take k).map rowNV ++ [rowNV x]) := Lib.hid (by rw [take_snoc hx]; simp)
                      have HTY : Hid ((mid.take (k + 1)).map rowYes = (mid.take k).map rowYes ++ [rowYes x]) := Lib.hid (by rw [take_snoc hx]; simp)
                      have HTG : Hid ((mid.take (k + 1)).all rowGood = ((mid.take k).all rowGood && rowGood x)) := Lib.hid (by rw [take_snoc hx]; simp)
                      obtain ⟨g', o', e', _, cx⟩ := r.bs (bs_get hgx)
                      cases e'
                      have cx : wo.cell? ⟨g1, o1 + (k + 1), none⟩ = some (.string (str x)) := (HSo1.out.cell (p := ⟨g1, o1 + (k + 1), none⟩) hg1).trans cx
                      have hg1o : g1 < wo.heap.size := by omega
                      have i2 : (0 : Int) ≤ (k : Int) + 1 := by omega
                      have i3 : (k : Int) + 1 < (n : Int) := by have := HN1.out; omega
                      have i4 : (k : Int) + 1 + 1 < (n : Int) + 1 := by have := HN1.out; omega
                      have hwl2 := splitL_len 32 x
                      have hwne := List.length_pos_iff.2 (splitL_ne 32 x)
                      have hwin : ∀ y ∈ splitL 32 x, y.length ≤ 1048576 := fun y hy => by have := splitL_in 32 x y hy; omega
                      have HC := Lib.hid (fun W => split_spec x 32 32 rfl W (by omega))
                      obtain ⟨ws, hws⟩ : ∃ ws, ws = splitL 32 x := ⟨_, rfl⟩
                      rw [← hws] at HC hwl2 hwne hwin
                      obtain ⟨x0, hx0⟩ := get_some hwne
                      have hx0b := bs_get hx0
                      obtain ⟨q, hq⟩ : ∃ q, ws.length = q + 1 := ⟨ws.length - 1, by omega⟩
                      have HC : Hid (∀ W, Calls Tryd.prog 44 #[.string (str x), .int .u8 32] W fun e w' => ∃ A c, e = .returned (.slice A (q + 1) c) ∧ RdS w' w'.heap.size A (ws.map Bs.mk) ∧ (∀ a, A = some a → W.heap.size ≤ a.block) ∧ Below W.heap.size W w') := Lib.hid (fun W => (HC.out W).mono fun e w' ⟨A, c, h1, h2, h3, h4⟩ => ⟨A, c, by rw [← hq]; exact h1, h2, h3, h4⟩)
                      have HNW : Hid (∀ A c W, RdS W W.heap.size A (ws.map Bs.mk) → Calls Tryd.prog 54 #[.slice A (q + 1) c, .int .i64 1] W (RetNums ws.tail W)) := Lib.hid (fun A c W r => by rw [← hq]; exact numbers_spec A c ws W r (by omega) (by omega) hwin)
                      have HVQ : Hid ((numsV ws.tail).length = q) := Lib.hid (by unfold numsV; rw [List.length_map, List.length_tail, hq]; rfl)
                      have HRN : Hid (rowNV x = numsV ws.tail) := Lib.hid (by rw [hws]; rfl)
                      have HRY : Hid (rowYes x = decide (x0 = yesT)) := Lib.hid (by unfold rowYes; rw [← hws, hx0]; simp)
                      have HRG : Hid (rowGood x = (numsOk ws.tail && (decide (x0 = yesT) || decide (x0 = noT)))) := Lib.hid (by unfold rowGood rowYes; rw [← hws, hx0]; simp)
                      have hbadrow : rowGood x = false → rdC l = ⟨0, 0, [], []⟩ ∧ rdCode l = 5 := fun h => rdBadRow H20.out HLS.out (by
                        rw [← HMD.out, Bool.eq_false_iff]
                        intro h2
                        have := List.all_eq_true.1 h2 x hmx
                        rw [h] at this
                        cases this)
                      have HBR := Lib.hid hbadrow
                      have hq1 : q ≤ 1048576 := by omega
                      clear hx hmx hgx hwne hwin hws hq hx0 hwl2 hbadrow
                      go_wp2_with fail
                      refine (HC.out _).mono ?_
                      rintro e w5 ⟨A5, m5, rfl, r5, hf5, hb5⟩
                      have HBw5 : Since w w5 := ⟨below_cat (by repeat (first | exact Below.refl _ _ | exact Since.out (by assumption) | refine Below.alloc ?_ (by first | omega | (simp only [sz_alloc, sz_set, sz_drew, sz_drewN]; omega) | (simp only [sz_alloc, sz_set, sz_drew, sz_drewN] at *; omega)) _ | refine Below.setCell ?_ (by first | omega | (simp only [sz_alloc, sz_set, sz_drew, sz_drewN]; omega) | (simp only [sz_alloc, sz_set, sz_drew, sz_drewN] at *; omega)) _ | refine Below.drew ?_ | refine below_drewN_ ?_ _)) hb5 (by first | omega | (simp only [sz_alloc, sz_set, sz_drew, sz_drewN]; omega) | (simp only [sz_alloc, sz_set, sz_drew, sz_drewN] at *; omega))⟩; have hzw5 := hb5.size; (try simp only [sz_alloc, sz_set, sz_drew, sz_drewN] at hzw5); have hcw5k0 := fun o => hb5.cell (p := ⟨w.heap.size, o, none⟩) (by first | omega | (simp only [sz_alloc, sz_set, sz_drew, sz_drewN]; omega) | (simp only [sz_alloc, sz_set, sz_drew, sz_drewN] at *; omega)); have hfw5k0 := fun o => hb5.frozen (p := ⟨w.heap.size, o, none⟩) (by first | omega | (simp only [sz_alloc, sz_set, sz_drew, sz_drewN]; omega) | (simp only [sz_alloc, sz_set, sz_drew, sz_drewN] at *; omega)); have hlw5k0 : w.heap.size < w5.heap.size := (by first | omega | (simp only [sz_alloc, sz_set, sz_drew, sz_drewN]; omega) | (simp only [sz_alloc, sz_set, sz_drew, sz_drewN] at *; omega))
                      obtain ⟨g5, o5, rfl, hg5, c5⟩ := r5.bs hx0b
                      have hg5o := hf5 _ rfl
                      rw [Nat.add_zero] at c5
                      have S5 : Since wo w5 := ⟨hb5⟩
                      have S55 : Since w5 w5 := ⟨Below.refl _ _⟩
                      simp only at hg5o
                      clear hf5 hx0b cx
                      go_wp2_with fail
                      refine (HNW.out _ _ _ (r5.up (by repeat (first | exact Below.refl _ _ | exact Since.out (by assumption) | refine Below.alloc ?_ (by first | omega | (simp only [sz_alloc, sz_set, sz_drew, sz_drewN]; omega) | (simp only [sz_alloc, sz_set, sz_drew, sz_drewN] at *; omega)) _ | refine Below.setCell ?_ (by first | omega | (simp only [sz_alloc, sz_set, sz_drew, sz_drewN]; omega) | (simp only [sz_alloc, sz_set, sz_drew, sz_drewN] at *; omega)) _ | refine Below.drew ?_ | refine below_drewN_ ?_ _)))).mono ?_
                      rintro e w6 ⟨R, cr, bsr, ys, rfl, hy, -, oy, fy, hb6⟩
                      have HBw6 : Since w w6 := ⟨below_cat (by repeat (first | exact Below.refl _ _ | exact Since.out (by assumption) | refine Below.alloc ?_ (by first | omega | (simp only [sz_alloc, sz_set, sz_drew, sz_drewN]; omega) | (simp only [sz_alloc, sz_set, sz_drew, sz_drewN] at *; omega)) _ | refine Below.setCell ?_ (by first | omega | (simp only [sz_alloc, sz_set, sz_drew, sz_drewN]; omega) | (simp only [sz_alloc, sz_set, sz_drew, sz_drewN] at *; omega)) _ | refine Below.drew ?_ | refine below_drewN_ ?_ _)) hb6 (by first | omega | (simp only [sz_alloc, sz_set, sz_drew, sz_drewN]; omega) | (simp only [sz_alloc, sz_set, sz_drew, sz_drewN] at *; omega))⟩; have hzw6 := hb6.size; (try simp only [sz_alloc, sz_set, sz_drew, sz_drewN] at hzw6); have hcw6k0 := fun o => hb6.cell (p := ⟨w.heap.size, o, none⟩) (by first | omega | (simp only [sz_alloc, sz_set, sz_drew, sz_drewN]; omega) | (simp only [sz_alloc, sz_set, sz_drew, sz_drewN] at *; omega)); have hfw6k0 := fun o => hb6.frozen (p := ⟨w.heap.size, o, none⟩) (by first | omega | (simp only [sz_alloc, sz_set, sz_drew, sz_drewN]; omega) | (simp only [sz_alloc, sz_set, sz_drew, sz_drewN] at *; omega)); have hlw6k0 : w.heap.size < w6.heap.size := (by first | omega | (simp only [sz_alloc, sz_set, sz_drew, sz_drewN]; omega) | (simp only [sz_alloc, sz_set, sz_drew, sz_drewN] at *; omega))
                      have S6 : Since wo w6 := ⟨below_cat (by repeat (first | exact Below.refl _ _ | exact Since.out (by assumption) | refine Below.alloc ?_ (by first | omega | (simp only [sz_alloc, sz_set, sz_drew, sz_drewN]; omega) | (simp only [sz_alloc, sz_set, sz_drew, sz_drewN] at *; omega)) _ | refine Below.setCell ?_ (by first | omega | (simp only [sz_alloc, sz_set, sz_drew, sz_drewN]; omega) | (simp only [sz_alloc, sz_set, sz_drew, sz_drewN] at *; omega)) _ | refine Below.drew ?_ | refine below_drewN_ ?_ _)) hb6 (by first | omega | (simp only [sz_alloc, sz_set, sz_drew, sz_drewN]; omega) | (simp only [sz_alloc, sz_set, sz_drew, sz_drewN] at *; omega))⟩
                      have c6 : w6.cell? ⟨g5, o5, none⟩ = some (.string (str x0)) := (Below.cell hb6 (p := ⟨g5, o5, none⟩) hg5).trans c5
                      have hg56 : g5 < w6.heap.size := by omega
                      clear c5 r5
                      cases hG : numsOk ws.tail with
                      | false =>
                        have HE := Lib.hid (HBR.out (by rw [HRG.out, hG]; rfl))
                        clear hG hy
                        go_wp2
                        have p0 : w6.cell? ⟨w.heap.size, 0, none⟩ = some (.int .i64 0) := by go_simp
                        have p1 : w6.cell? ⟨w.heap.size, 1, none⟩ = some (.int .i64 0) := by go_simp
                        have p2 : w6.cell? ⟨w.heap.size, 2, none⟩ = some (.slice none 0 0) := by go_simp
                        have p3 : w6.cell? ⟨w.heap.size, 3, none⟩ = some (.slice none 0 0) := by go_simp
                        rw [HE.out.1, HE.out.2]
                        exact bodyPost_ret (v := .tuple #[.agg #[.int .i64 0, .int .i64 0, .slice none 0 0, .slice none 0 0], .int .i64 5]) (by simp [results, Tryd.results16, go_sem, p0, p1, p2, p3]) rfl (rr_err (by repeat (first | exact Below.refl _ _ | exact Since.out (by assumption) | refine Below.alloc ?_ (by first | omega | (simp only [sz_alloc, sz_set, sz_drew, sz_drewN]; omega) | (simp only [sz_alloc, sz_set, sz_drew, sz_drewN] at *; omega)) _ | refine Below.setCell ?_ (by first | omega | (simp only [sz_alloc, sz_set, sz_drew, sz_drewN]; omega) | (simp only [sz_alloc, sz_set, sz_drew, sz_drewN] at *; omega)) _ | refine Below.drew ?_ | refine below_drewN_ ?_ _)))
                      | true =>
                        obtain rfl := hy hG
                        rw [HVQ.out]
                        have HGW := Lib.hid hG
                        have HOY := Lib.hid oy
                        have HFY := Lib.hid fy
                        have hgo : g < w6.heap.size := by omega
                        have hB6 : w6.heap[g]? = some (.cells #[.int .i64 va, .int .i64 vc, .slice A k c, .slice D k m] 33 (0, 0)) := (S6.out.block g (by omega)).trans HB.out
                        have kg2 : w6.cell? ⟨g, 2, none⟩ = some (.slice A k c) := cell_of_row w6 _ 2 _ _ (0, 0) hB6
                        have HB6 := Lib.hid hB6
                        have HA6 := Lib.hid (HA.out.below S6.out (Nat.le_refl _))
                        have hzo6 := S6.out.size
                        have HSI1 : Since w3 w6 := ⟨hs.out.trans (S6.out.mono hzo)⟩
                        have HBA : Hid (∀ g', wo.heap.size ≤ g' → ∀ a, A = some a → a.block ≠ g') := Lib.hid (fun g' h a ha e => by have := HA.out.one.lt a ha; omega)
                        clear hG hy oy fy hB6
                        by_cases hy1 : x0 = yesT
                        · have qy : (x0 == [121, 101, 115]) = true := lst_eq hy1
                          have HY : Hid (rowYes x = true ∧ rowGood x = true) := Lib.hid (by rw [HRY.out, HRG.out, HGW.out, decide_eq_true hy1]; exact ⟨rfl, rfl⟩)
                          clear hy1
                          go_wp2
                          refine Held.begin (fun w' => w'.cell? ⟨g, 2, none⟩ = some (.slice A k c) ∧ w'.cell? ⟨g5, o5, none⟩ = some (.string (str x0))) 8 (by kernel_rfl) (by (try dsimp only); (first | (go_keep; done) | (and_intros <;> go_simp))) (fun hHeld => ?_); (first | (refine Held.take (i := 0) (v := undef) (by (simp only [List.getElem?_toArray, List.getElem?_cons_succ, List.getElem?_cons_zero]); exact rfl) (by decide) (by kernel_rfl) (by kernel_rfl) (by kernel_rfl) (by kernel_rfl) (by exact fun _ _ _ h => h) (by exact Or.inr ⟨by rfl, rfl⟩) (by assumption) ?_) | (refine Held.take (i := 0) (v := ?_) (by (simp only [List.getElem?_toArray, List.getElem?_cons_succ, List.getElem?_cons_zero]); exact rfl) (by decide) (by kernel_rfl) (by kernel_rfl) (by kernel_rfl) (by kernel_rfl) (by exact fun _ _ _ h => h) (by refine Or.inl ⟨by rfl, ?_⟩; intro wS hSw; (try dsimp only at hSw); go_simp; (try with_reducible rfl)) (by assumption) ?_)); (try simp only [Act.put, List.setIfInBounds_toArray, List.set_cons_zero, List.set_cons_succ]); (first | (refine Held.take (i := 1) (v := undef) (by (simp only [List.getElem?_toArray, List.getElem?_cons_succ, List.getElem?_cons_zero]); exact rfl) (by decide) (by kernel_rfl) (by kernel_rfl) (by kernel_rfl) (by kernel_rfl) (by exact fun _ _ _ h => h) (by exact Or.inr ⟨by rfl, rfl⟩) (by assumption) ?_) | (refine Held.take (i := 1) (v := ?_) (by (simp only [List.getElem?_toArray, List.getElem?_cons_succ, List.getElem?_cons_zero]); exact rfl) (by decide) (by kernel_rfl) (by kernel_rfl) (by kernel_rfl) (by kernel_rfl) (by exact fun _ _ _ h => h) (by refine Or.inl ⟨by rfl, ?_⟩; intro wS hSw; (try dsimp only at hSw); go_simp; (try with_reducible rfl)) (by assumption) ?_)); (try simp only [Act.put, List.setIfInBounds_toArray, List.set_cons_zero, List.set_cons_succ]); (first | (refine Held.take (i := 2) (v := undef) (by (simp only [List.getElem?_toArray, List.getElem?_cons_succ, List.getElem?_cons_zero]); exact rfl) (by decide) (by kernel_rfl) (by kernel_rfl) (by kernel_rfl) (by kernel_rfl) (by exact fun _ _ _ h => h) (by exact Or.inr ⟨by rfl, rfl⟩) (by assumption) ?_) | (refine Held.take (i := 2) (v := ?_) (by (simp only [List.getElem?_toArray, List.getElem?_cons_succ, List.getElem?_cons_zero]); exact rfl) (by decide) (by kernel_rfl) (by kernel_rfl) (by kernel_rfl) (by kernel_rfl) (by exact fun _ _ _ h => h) (by refine Or.inl ⟨by rfl, ?_⟩; intro wS hSw; (try dsimp only at hSw); go_simp; (try with_reducible rfl)) (by assumption) ?_)); (try simp only [Act.put, List.setIfInBounds_toArray, List.set_cons_zero, List.set_cons_succ]); (first | (refine Held.take (i := 3) (v := undef) (by (simp only [List.getElem?_toArray, List.getElem?_cons_succ, List.getElem?_cons_zero]); exact rfl) (by decide) (by kernel_rfl) (by kernel_rfl) (by kernel_rfl) (by kernel_rfl) (by exact fun _ _ _ h => h) (by exact Or.inr ⟨by rfl, rfl⟩) (by assumption) ?_) | (refine Held.take (i := 3) (v := ?_) (by (simp only [List.getElem?_toArray, List.getElem?_cons_succ, List.getElem?_cons_zero]); exact rfl) (by decide) (by kernel_rfl) (by kernel_rfl) (by kernel_rfl) (by kernel_rfl) (by exact fun _ _ _ h => h) (by refine Or.inl ⟨by rfl, ?_⟩; intro wS hSw; (try dsimp only at hSw); go_simp; (try with_reducible rfl)) (by assumption) ?_)); (try simp only [Act.put, List.setIfInBounds_toArray, List.set_cons_zero, List.set_cons_succ]); (first | (refine Held.take (i := 4) (v := undef) (by (simp only [List.getElem?_toArray, List.getElem?_cons_succ, List.getElem?_cons_zero]); exact rfl) (by decide) (by kernel_rfl) (by kernel_rfl) (by kernel_rfl) (by kernel_rfl) (by exact fun _ _ _ h => h) (by exact Or.inr ⟨by rfl, rfl⟩) (by assumption) ?_) | (refine Held.take (i := 4) (v := ?_) (by (simp only [List.getElem?_toArray, List.getElem?_cons_succ, List.getElem?_cons_zero]); exact rfl) (by decide) (by kernel_rfl) (by kernel_rfl) (by kernel_rfl) (by kernel_rfl) (by exact fun _ _ _ h => h) (by refine Or.inl ⟨by rfl, ?_⟩; intro wS hSw; (try dsimp only at hSw); go_simp; (try with_reducible rfl)) (by assumption) ?_)); (try simp only [Act.put, List.setIfInBounds_toArray, List.set_cons_zero, List.set_cons_succ]); (first | (refine Held.take (i := 5) (v := undef) (by (simp only [List.getElem?_toArray, List.getElem?_cons_succ, List.getElem?_cons_zero]); exact rfl) (by decide) (by kernel_rfl) (by kernel_rfl) (by kernel_rfl) (by kernel_rfl) (by exact fun _ _ _ h => h) (by exact Or.inr ⟨by rfl, rfl⟩) (by assumption) ?_) | (refine Held.take (i := 5) (v := ?_) (by (simp only [List.getElem?_toArray, List.getElem?_cons_succ, List.getElem?_cons_zero]); exact rfl) (by decide) (by kernel_rfl) (by kernel_rfl) (by kernel_rfl) (by kernel_rfl) (by exact fun _ _ _ h => h) (by refine Or.inl ⟨by rfl, ?_⟩; intro wS hSw; (try dsimp only at hSw); go_simp; (try with_reducible rfl)) (by assumption) ?_)); (try simp only [Act.put, List.setIfInBounds_toArray, List.set_cons_zero, List.set_cons_succ]); refine Held.one (i := 6) (by (simp only [List.getElem?_toArray, List.getElem?_cons_succ, List.getElem?_cons_zero]); exact rfl) (by kernel_rfl) (fun K hK => ?_); go_simp; refine hK.out _ _ (by (try dsimp only); (first | (go_keep; done) | (and_intros <;> go_simp))) (fun hHeld => ?_); clear hK K; (try simp only [Act.put, List.setIfInBounds_toArray, List.set_cons_zero, List.set_cons_succ]); refine Held.one (i := 7) (by (simp only [List.getElem?_toArray, List.getElem?_cons_succ, List.getElem?_cons_zero]); exact rfl) (by kernel_rfl) (fun K hK => ?_); (refine step_push (α := Bool) _ (by rfl) (.tmp 100) (.tmp 105) 30 (by rfl) w4.heap.size 4 (.bool false) 1 Tryd.underlying30 infoBoolS rfl A k c _ [] (by rfl) (HA6.out.one.drew.alloc _) w6.heap.size 1 (by rfl) true [.bool true] [] ⟨rfl, rfl⟩ (fun j u hu => new_cells (w := w6.drew) rfl j u hu) (fun u hu => by (simp at hu; subst hu; rfl)) ⟨List.nodup_nil, fun g hg => by simp at hg⟩ (fun g hg => by simp at hg) (by omega) (by omega) (by first | omega | (simp only [sz_alloc, sz_set, sz_drew, sz_drewN]; omega) | (simp only [sz_alloc, sz_set, sz_drew, sz_drewN] at *; omega)) ?_; intro A4 c4 w7 hacc hgr hnew; have hB1 := Lib.hid (Acc.box (HA6.out.one.drew.alloc _) hgr (alloc_block (show w6.drew.heap[g]? = _ from HB6.out) hgo) hgl); have qe0 := (hgr.cell_far ⟨g, 2, none⟩ (by first | omega | (simp only [sz_alloc, sz_set, sz_drew, sz_drewN]; omega) | (simp only [sz_alloc, sz_set, sz_drew, sz_drewN] at *; omega)) (HA6.out.one.far (by show g < _; omega))).trans (show (World.alloc _ _).cell? _ = some (.slice A k c) by go_simp); have qe1 : w7.cell? ⟨g5, o5, none⟩ = some (.string (str x0)) := (World.cell?_of_block (a := ⟨g5, o5, none⟩) (grown_block hgr (k := g5) (by first | omega | (simp only [sz_alloc, sz_set, sz_drew, sz_drewN]; omega) | (simp only [sz_alloc, sz_set, sz_drew, sz_drewN] at *; omega)) (HBA.out g5 hg5o))).trans (show (World.alloc _ _).cell? _ = some (.string (str x0)) by go_simp); have HA7 := Lib.hid ((HA6.out.drew.alloc _).grow1 hacc hgr hnew); have HO7 : Hid (OwnS w7 R (numsV ws.tail) bsr) := Lib.hid (HOY.out.keep fun g' hg' => (grown_block hgr (k := g') (by have := (HFY.out.2 g' hg').2; simp only [sz_alloc, sz_drew]; omega) (HBA.out g' (by have := (HFY.out.2 g' hg').1; omega))).trans (Below.block (B := w6.heap.size) (by repeat (first | exact Below.refl _ _ | refine Below.alloc ?_ (by first | omega | (simp only [sz_alloc, sz_set, sz_drew, sz_drewN]; omega) | (simp only [sz_alloc, sz_set, sz_drew, sz_drewN] at *; omega)) _ | refine Below.setCell ?_ (by first | omega | (simp only [sz_alloc, sz_set, sz_drew, sz_drewN]; omega) | (simp only [sz_alloc, sz_set, sz_drew, sz_drewN] at *; omega)) _ | refine Below.drew ?_ | refine below_drewN_ ?_ _)) _ (HFY.out.2 g' hg').2)); have HS7 : Since w3 w7 := ⟨Acc.since (HA6.out.one.drew.alloc _) hgr (HSI1.out.drew.alloc (by first | omega | (simp only [sz_alloc, sz_set, sz_drew, sz_drewN]; omega) | (simp only [sz_alloc, sz_set, sz_drew, sz_drewN] at *; omega)) _) hz4 (by first | omega | (simp only [sz_alloc, sz_set, sz_drew, sz_drewN]; omega) | (simp only [sz_alloc, sz_set, sz_drew, sz_drewN] at *; omega))⟩; have hz7 : w6.heap.size ≤ w7.heap.size := Nat.le_trans (by first | omega | (simp only [sz_alloc, sz_set, sz_drew, sz_drewN]; omega) | (simp only [sz_alloc, sz_set, sz_drew, sz_drewN] at *; omega)) hgr.size; have HAP : Hid (∀ g' ∈ bsr, ∀ a, A4 = some a → a.block ≠ g') := Lib.hid (fun g' hg' a ha e => (hnew a ha).elim (fun h => HBA.out g' (by have := (HFY.out.2 g' hg').1; omega) a h e) (fun h => by have := (HFY.out.2 g' hg').2; (try simp only [sz_alloc, sz_drew] at h); omega)); have f0 : w7.frozen? ⟨g, 2, none⟩ = false := blk_free hB1.out; clear hacc hgr hnew); refine hK.out _ _ (by (try dsimp only); (first | (go_keep; done) | (and_intros <;> go_simp))) (fun hHeld => ?_); clear hK K; (try simp only [Act.put, List.setIfInBounds_toArray, List.set_cons_zero, List.set_cons_succ]); refine Held.last (i := 8) (by (simp only [List.getElem?_toArray, List.getElem?_cons_succ, List.getElem?_cons_zero]); exact rfl) (by decide) (by kernel_rfl) (fun K hK => ?_); go_simp; refine hK.out _ _ ?_; clear hK K; (try simp only [Act.put, List.setIfInBounds_toArray, List.set_cons_zero, List.set_cons_succ]); refine Held.last (i := 9) (by (simp only [List.getElem?_toArray, List.getElem?_cons_succ, List.getElem?_cons_zero]); exact rfl) (by decide) (by kernel_rfl) (fun K hK => ?_); go_simp; refine hK.out _ _ ?_; clear hK K; (try simp only [Act.put, List.setIfInBounds_toArray, List.set_cons_zero, List.set_cons_succ]); refine Held.done (by kernel_rfl) ?_ _
                          obtain ⟨W, hW⟩ : ∃ W, W = w7.setCell ⟨g, 2, none⟩ (.slice A4 (k + 1) c4) := ⟨_, rfl⟩
                          have HBW : Hid (W.heap[g]? = some (.cells #[.int .i64 va, .int .i64 vc, .slice A4 (k + 1) c4, .slice D k m] 33 (0, 0))) := Lib.hid (by rw [hW]; exact blk_set hB1.out _)
                          have HAW : Hid (AccN W w4.heap.size 4 83 A4 (k + 1) c4 ((mid.take (k + 1)).map rowYes) D k m ((mid.take k).map rowNV) bs) := Lib.hid (by rw [hW, HTY.out, HY.out.1]; exact HA7.out.setCell hgl _)
                          have HOW : Hid (OwnS W R (numsV ws.tail) bsr) := Lib.hid (by
                            rw [hW]
                            exact HO7.out.keep fun g' hg' => Below.heap_setCell _ _ _ _ (fun e => by have := (HFY.out.2 g' hg').1; simp only at e; omega))
                          have HSW : Since w3 W := ⟨by rw [hW]; exact HS7.out.setCell hg4 _⟩
                          have hzW : w6.heap.size ≤ W.heap.size := by rw [hW, sz_set]; exact hz7
                          have hgW : g < W.heap.size := by omega
                          have HFW : Hid (Fresh wo.heap.size W bsr) := Lib.hid ((HFY.out.low (by first | omega | (simp only [sz_alloc, sz_set, sz_drew, sz_drewN]; omega) | (simp only [sz_alloc, sz_set, sz_drew, sz_drewN] at *; omega))).more hzW)
                          have k3 : W.cell? ⟨g, 3, none⟩ = some (.slice D k m) := cell_of_row W _ 3 _ _ (0, 0) HBW.out
                          rw [← hW]
                          clear hW hB1 qe0 qe1 f0 hz7 HS7 HA7 HO7 kg2 c6
                          go_wp2_with (at_builtin; refine wpList_push (α := List Int) _ rfl (.tmp 109) (.tmp 111) 31 rfl w4.heap.size 83 (.slice none 0 0) 24 Tryd.underlying31 infoInt64SS rfl D k m _ bs rfl (HAW.out.two.alloc _) W.heap.size 1 rfl (numsV ws.tail) [.slice R q cr] bsr ⟨R, cr, by rw [HVQ.out], by rw [HVQ.out]; omega, HOW.out.pushR HFW.out _⟩ (new_cells (by first | rfl | simp [sz_set])) (fun u hu => by (simp at hu; subst hu; rfl)) ⟨HFW.out.1, fun g hg => ⟨by have := (HFW.out.2 g hg).1; omega, by have := (HFW.out.2 g hg).2; simp only [sz_alloc]; omega⟩⟩ (fun g' hg' => ⟨fun hm => by have h1 := (HA.out.two.fresh.2 _ hm).2; have := (HFW.out.2 g' hg').1; omega, fun a ha e => by have h1 := (HA.out.two.lt a ha).2; have := (HFW.out.2 g' hg').1; omega⟩) (by omega) (by omega) (by first | omega | (simp only [sz_alloc, sz_set, sz_drew, sz_drewN]; omega) | (simp only [sz_alloc, sz_set, sz_drew, sz_drewN] at *; omega)) ?_
                                       intro D1 d1 w8 hacc hgr hnew
                                       have HS8 : Since w3 w8 := ⟨Acc.since (HAW.out.two.alloc _) hgr (HSW.out.alloc (by first | omega | (simp only [sz_alloc, sz_set, sz_drew, sz_drewN]; omega) | (simp only [sz_alloc, sz_set, sz_drew, sz_drewN] at *; omega)) _) hz4 (by first | omega | (simp only [sz_alloc, sz_set, sz_drew, sz_drewN]; omega) | (simp only [sz_alloc, sz_set, sz_drew, sz_drewN] at *; omega))⟩
                                       have hB8 := (HAW.out.two.alloc (.cells #[.slice R q cr] 83)).box hgr (alloc_block HBW.out hgW) hgl
                                       have f8 : w8.frozen? ⟨g, 3, none⟩ = false := blk_free hB8
                                       have k8 : w8.cell? ⟨g, 3, none⟩ = some (.slice D k m) := cell_of_row w8 _ 3 _ _ (0, 0) hB8
                                       have hg8 : g < w8.heap.size := (Array.getElem?_eq_some_iff.1 hB8).1
                                       have hz8 : w4.heap.size ≤ w8.heap.size := Nat.le_trans (show w4.heap.size ≤ (W.alloc (.cells #[.slice R q cr] 83)).heap.size by simp only [sz_alloc]; omega) hgr.size
                                       have HB8 := Lib.hid hB8
                                       have HA8 := Lib.hid ((HAW.out.alloc (.cells #[.slice R q cr] 83)).grow2 hacc hgr hnew HAP.out)
                                       clear hacc hgr hnew hB8)
                          go_roundw
                          case rel =>
                            refine ⟨k + 1, A4, c4, D1, d1, bs ++ bsr, by omega, by go_num, Lib.hid (blk_set HB8.out _), Lib.hid ?_, Lib.hid (by rw [HTG.out, HAL.out, HY.out.2]; rfl), ⟨HS8.out.setCell hg4 _⟩, (by first | omega | (simp only [sz_alloc, sz_set, sz_drew, sz_drewN]; omega) | (simp only [sz_alloc, sz_set, sz_drew, sz_drewN] at *; omega))⟩
                            rw [HT.out, HRN.out]
                            exact HA8.out.setCell hgl _
                          case measure => simp [intOf]; omega
                        · have qy : (x0 == [121, 101, 115]) = false := lst_ne hy1
                          by_cases hy2 : x0 = noT
                          · have qn : (x0 == [110, 111]) = true := lst_eq hy2
                            have HY : Hid (rowYes x = false ∧ rowGood x = true) := Lib.hid (by rw [HRY.out, HRG.out, HGW.out, decide_eq_false hy1, decide_eq_true hy2]; exact ⟨rfl, rfl⟩)
                            clear hy1 hy2
                            go_wp2
                            refine Held.begin (fun w' => w'.cell? ⟨g, 2, none⟩ = some (.slice A k c) ∧ w'.cell? ⟨g5, o5, none⟩ = some (.string (str x0))) 8 (by kernel_rfl) (by (try dsimp only); (first | (go_keep; done) | (and_intros <;> go_simp))) (fun hHeld => ?_); (first | (refine Held.take (i := 0) (v := undef) (by (simp only [List.getElem?_toArray, List.getElem?_cons_succ, List.getElem?_cons_zero]); exact rfl) (by decide) (by kernel_rfl) (by kernel_rfl) (by kernel_rfl) (by kernel_rfl) (by exact fun _ _ _ h => h) (by exact Or.inr ⟨by rfl, rfl⟩) (by assumption) ?_) | (refine Held.take (i := 0) (v := ?_) (by (simp only [List.getElem?_toArray, List.getElem?_cons_succ, List.getElem?_cons_zero]); exact rfl) (by decide) (by kernel_rfl) (by kernel_rfl) (by kernel_rfl) (by kernel_rfl) (by exact fun _ _ _ h => h) (by refine Or.inl ⟨by rfl, ?_⟩; intro wS hSw; (try dsimp only at hSw); go_simp; (try with_reducible rfl)) (by assumption) ?_)); (try simp only [Act.put, List.setIfInBounds_toArray, List.set_cons_zero, List.set_cons_succ]); (first | (refine Held.take (i := 1) (v := undef) (by (simp only [List.getElem?_toArray, List.getElem?_cons_succ, List.getElem?_cons_zero]); exact rfl) (by decide) (by kernel_rfl) (by kernel_rfl) (by kernel_rfl) (by kernel_rfl) (by exact fun _ _ _ h => h) (by exact Or.inr ⟨by rfl, rfl⟩) (by assumption) ?_) | (refine Held.take (i := 1) (v := ?_) (by (simp only [List.getElem?_toArray, List.getElem?_cons_succ, List.getElem?_cons_zero]); exact rfl) (by decide) (by kernel_rfl) (by kernel_rfl) (by kernel_rfl) (by kernel_rfl) (by exact fun _ _ _ h => h) (by refine Or.inl ⟨by rfl, ?_⟩; intro wS hSw; (try dsimp only at hSw); go_simp; (try with_reducible rfl)) (by assumption) ?_)); (try simp only [Act.put, List.setIfInBounds_toArray, List.set_cons_zero, List.set_cons_succ]); (first | (refine Held.take (i := 2) (v := undef) (by (simp only [List.getElem?_toArray, List.getElem?_cons_succ, List.getElem?_cons_zero]); exact rfl) (by decide) (by kernel_rfl) (by kernel_rfl) (by kernel_rfl) (by kernel_rfl) (by exact fun _ _ _ h => h) (by exact Or.inr ⟨by rfl, rfl⟩) (by assumption) ?_) | (refine Held.take (i := 2) (v := ?_) (by (simp only [List.getElem?_toArray, List.getElem?_cons_succ, List.getElem?_cons_zero]); exact rfl) (by decide) (by kernel_rfl) (by kernel_rfl) (by kernel_rfl) (by kernel_rfl) (by exact fun _ _ _ h => h) (by refine Or.inl ⟨by rfl, ?_⟩; intro wS hSw; (try dsimp only at hSw); go_simp; (try with_reducible rfl)) (by assumption) ?_)); (try simp only [Act.put, List.setIfInBounds_toArray, List.set_cons_zero, List.set_cons_succ]); (first | (refine Held.take (i := 3) (v := undef) (by (simp only [List.getElem?_toArray, List.getElem?_cons_succ, List.getElem?_cons_zero]); exact rfl) (by decide) (by kernel_rfl) (by kernel_rfl) (by kernel_rfl) (by kernel_rfl) (by exact fun _ _ _ h => h) (by exact Or.inr ⟨by rfl, rfl⟩) (by assumption) ?_) | (refine Held.take (i := 3) (v := ?_) (by (simp only [List.getElem?_toArray, List.getElem?_cons_succ, List.getElem?_cons_zero]); exact rfl) (by decide) (by kernel_rfl) (by kernel_rfl) (by kernel_rfl) (by kernel_rfl) (by exact fun _ _ _ h => h) (by refine Or.inl ⟨by rfl, ?_⟩; intro wS hSw; (try dsimp only at hSw); go_simp; (try with_reducible rfl)) (by assumption) ?_)); (try simp only [Act.put, List.setIfInBounds_toArray, List.set_cons_zero, List.set_cons_succ]); (first | (refine Held.take (i := 4) (v := undef) (by (simp only [List.getElem?_toArray, List.getElem?_cons_succ, List.getElem?_cons_zero]); exact rfl) (by decide) (by kernel_rfl) (by kernel_rfl) (by kernel_rfl) (by kernel_rfl) (by exact fun _ _ _ h => h) (by exact Or.inr ⟨by rfl, rfl⟩) (by assumption) ?_) | (refine Held.take (i := 4) (v := ?_) (by (simp only [List.getElem?_toArray, List.getElem?_cons_succ, List.getElem?_cons_zero]); exact rfl) (by decide) (by kernel_rfl) (by kernel_rfl) (by kernel_rfl) (by kernel_rfl) (by exact fun _ _ _ h => h) (by refine Or.inl ⟨by rfl, ?_⟩; intro wS hSw; (try dsimp only at hSw); go_simp; (try with_reducible rfl)) (by assumption) ?_)); (try simp only [Act.put, List.setIfInBounds_toArray, List.set_cons_zero, List.set_cons_succ]); (first | (refine Held.take (i := 5) (v := undef) (by (simp only [List.getElem?_toArray, List.getElem?_cons_succ, List.getElem?_cons_zero]); exact rfl) (by decide) (by kernel_rfl) (by kernel_rfl) (by kernel_rfl) (by kernel_rfl) (by exact fun _ _ _ h => h) (by exact Or.inr ⟨by rfl, rfl⟩) (by assumption) ?_) | (refine Held.take (i := 5) (v := ?_) (by (simp only [List.getElem?_toArray, List.getElem?_cons_succ, List.getElem?_cons_zero]); exact rfl) (by decide) (by kernel_rfl) (by kernel_rfl) (by kernel_rfl) (by kernel_rfl) (by exact fun _ _ _ h => h) (by refine Or.inl ⟨by rfl, ?_⟩; intro wS hSw; (try dsimp only at hSw); go_simp; (try with_reducible rfl)) (by assumption) ?_)); (try simp only [Act.put, List.setIfInBounds_toArray, List.set_cons_zero, List.set_cons_succ]); refine Held.one (i := 6) (by (simp only [List.getElem?_toArray, List.getElem?_cons_succ, List.getElem?_cons_zero]); exact rfl) (by kernel_rfl) (fun K hK => ?_); go_simp; refine hK.out _ _ (by (try dsimp only); (first | (go_keep; done) | (and_intros <;> go_simp))) (fun hHeld => ?_); clear hK K; (try simp only [Act.put, List.setIfInBounds_toArray, List.set_cons_zero, List.set_cons_succ]); refine Held.one (i := 7) (by (simp only [List.getElem?_toArray, List.getElem?_cons_succ, List.getElem?_cons_zero]); exact rfl) (by kernel_rfl) (fun K hK => ?_); (refine step_push (α := Bool) _ (by rfl) (.tmp 100) (.tmp 105) 30 (by rfl) w4.heap.size 4 (.bool false) 1 Tryd.underlying30 infoBoolS rfl A k c _ [] (by rfl) (HA6.out.one.drew.alloc _) w6.heap.size 1 (by rfl) false [.bool false] [] ⟨rfl, rfl⟩ (fun j u hu => new_cells (w := w6.drew) rfl j u hu) (fun u hu => by (simp at hu; subst hu; rfl)) ⟨List.nodup_nil, fun g hg => by simp at hg⟩ (fun g hg => by simp at hg) (by omega) (by omega) (by first | omega | (simp only [sz_alloc, sz_set, sz_drew, sz_drewN]; omega) | (simp only [sz_alloc, sz_set, sz_drew, sz_drewN] at *; omega)) ?_; intro A4 c4 w7 hacc hgr hnew; have hB1 := Lib.hid (Acc.box (HA6.out.one.drew.alloc _) hgr (alloc_block (show w6.drew.heap[g]? = _ from HB6.out) hgo) hgl); have qe0 := (hgr.cell_far ⟨g, 2, none⟩ (by first | omega | (simp only [sz_alloc, sz_set, sz_drew, sz_drewN]; omega) | (simp only [sz_alloc, sz_set, sz_drew, sz_drewN] at *; omega)) (HA6.out.one.far (by show g < _; omega))).trans (show (World.alloc _ _).cell? _ = some (.slice A k c) by go_simp); have qe1 : w7.cell? ⟨g5, o5, none⟩ = some (.string (str x0)) := (World.cell?_of_block (a := ⟨g5, o5, none⟩) (grown_block hgr (k := g5) (by first | omega | (simp only [sz_alloc, sz_set, sz_drew, sz_drewN]; omega) | (simp only [sz_alloc, sz_set, sz_drew, sz_drewN] at *; omega)) (HBA.out g5 hg5o))).trans (show (World.alloc _ _).cell? _ = some (.string (str x0)) by go_simp); have HA7 := Lib.hid ((HA6.out.drew.alloc _).grow1 hacc hgr hnew); have HO7 : Hid (OwnS w7 R (numsV ws.tail) bsr) := Lib.hid (HOY.out.keep fun g' hg' => (grown_block hgr (k := g') (by have := (HFY.out.2 g' hg').2; simp only [sz_alloc, sz_drew]; omega) (HBA.out g' (by have := (HFY.out.2 g' hg').1; omega))).trans (Below.block (B := w6.heap.size) (by repeat (first | exact Below.refl _ _ | refine Below.alloc ?_ (by first | omega | (simp only [sz_alloc, sz_set, sz_drew, sz_drewN]; omega) | (simp only [sz_alloc, sz_set, sz_drew, sz_drewN] at *; omega)) _ | refine Below.setCell ?_ (by first | omega | (simp only [sz_alloc, sz_set, sz_drew, sz_drewN]; omega) | (simp only [sz_alloc, sz_set, sz_drew, sz_drewN] at *; omega)) _ | refine Below.drew ?_ | refine below_drewN_ ?_ _)) _ (HFY.out.2 g' hg').2)); have HS7 : Since w3 w7 := ⟨Acc.since (HA6.out.one.drew.alloc _) hgr (HSI1.out.drew.alloc (by first | omega | (simp only [sz_alloc, sz_set, sz_drew, sz_drewN]; omega) | (simp only [sz_alloc, sz_set, sz_drew, sz_drewN] at *; omega)) _) hz4 (by first | omega | (simp only [sz_alloc, sz_set, sz_drew, sz_drewN]; omega) | (simp only [sz_alloc, sz_set, sz_drew, sz_drewN] at *; omega))⟩; have hz7 : w6.heap.size ≤ w7.heap.size := Nat.le_trans (by first | omega | (simp only [sz_alloc, sz_set, sz_drew, sz_drewN]; omega) | (simp only [sz_alloc, sz_set, sz_drew, sz_drewN] at *; omega)) hgr.size; have HAP : Hid (∀ g' ∈ bsr, ∀ a, A4 = some a → a.block ≠ g') := Lib.hid (fun g' hg' a ha e => (hnew a ha).elim (fun h => HBA.out g' (by have := (HFY.out.2 g' hg').1; omega) a h e) (fun h => by have := (HFY.out.2 g' hg').2; (try simp only [sz_alloc, sz_drew] at h); omega)); have f0 : w7.frozen? ⟨g, 2, none⟩ = false := blk_free hB1.out; clear hacc hgr hnew); refine hK.out _ _ (by (try dsimp only); (first | (go_keep; done) | (and_intros <;> go_simp))) (fun hHeld => ?_); clear hK K; (try simp only [Act.put, List.setIfInBounds_toArray, List.set_cons_zero, List.set_cons_succ]); refine Held.last (i := 8) (by (simp only [List.getElem?_toArray, List.getElem?_cons_succ, List.getElem?_cons_zero]); exact rfl) (by decide) (by kernel_rfl) (fun K hK => ?_); go_simp; refine hK.out _ _ ?_; clear hK K; (try simp only [Act.put, List.setIfInBounds_toArray, List.set_cons_zero, List.set_cons_succ]); refine Held.last (i := 9) (by (simp only [List.getElem?_toArray, List.getElem?_cons_succ, List.getElem?_cons_zero]); exact rfl) (by decide) (by kernel_rfl) (fun K hK => ?_); go_simp; refine hK.out _ _ ?_; clear hK K; (try simp only [Act.put, List.setIfInBounds_toArray, List.set_cons_zero, List.set_cons_succ]); refine Held.done (by kernel_rfl) ?_ _
                            obtain ⟨W, hW⟩ : ∃ W, W = w7.setCell ⟨g, 2, none⟩ (.slice A4 (k + 1) c4) := ⟨_, rfl⟩
                            have HBW : Hid (W.heap[g]? = some (.cells #[.int .i64 va, .int .i64 vc, .slice A4 (k + 1) c4, .slice D k m] 33 (0, 0))) := Lib.hid (by rw [hW]; exact blk_set hB1.out _)
                            have HAW : Hid (AccN W w4.heap.size 4 83 A4 (k + 1) c4 ((mid.take (k + 1)).map rowYes) D k m ((mid.take k).map rowNV) bs) := Lib.hid (by rw [hW, HTY.out, HY.out.1]; exact HA7.out.setCell hgl _)
                            have HOW : Hid (OwnS W R (numsV ws.tail) bsr) := Lib.hid (by
                              rw [hW]
                              exact HO7.out.keep fun g' hg' => Below.heap_setCell _ _ _ _ (fun e => by have := (HFY.out.2 g' hg').1; simp only at e; omega))
                            have HSW : Since w3 W := ⟨by rw [hW]; exact HS7.out.setCell hg4 _⟩
                            have hzW : w6.heap.size ≤ W.heap.size := by rw [hW, sz_set]; exact hz7
                            have hgW : g < W.heap.size := by omega
                            have HFW : Hid (Fresh wo.heap.size W bsr) := Lib.hid ((HFY.out.low (by first | omega | (simp only [sz_alloc, sz_set, sz_drew, sz_drewN]; omega) | (simp only [sz_alloc, sz_set, sz_drew, sz_drewN] at *; omega))).more hzW)
                            have k3 : W.cell? ⟨g, 3, none⟩ = some (.slice D k m) := cell_of_row W _ 3 _ _ (0, 0) HBW.out
                            rw [← hW]
                            clear hW hB1 qe0 qe1 f0 hz7 HS7 HA7 HO7 kg2 c6
                            go_wp2_with (at_builtin; refine wpList_push (α := List Int) _ rfl (.tmp 109) (.tmp 111) 31 rfl w4.heap.size 83 (.slice none 0 0) 24 Tryd.underlying31 infoInt64SS rfl D k m _ bs rfl (HAW.out.two.alloc _) W.heap.size 1 rfl (numsV ws.tail) [.slice R q cr] bsr ⟨R, cr, by rw [HVQ.out], by rw [HVQ.out]; omega, HOW.out.pushR HFW.out _⟩ (new_cells (by first | rfl | simp [sz_set])) (fun u hu => by (simp at hu; subst hu; rfl)) ⟨HFW.out.1, fun g hg => ⟨by have := (HFW.out.2 g hg).1; omega, by have := (HFW.out.2 g hg).2; simp only [sz_alloc]; omega⟩⟩ (fun g' hg' => ⟨fun hm => by have h1 := (HA.out.two.fresh.2 _ hm).2; have := (HFW.out.2 g' hg').1; omega, fun a ha e => by have h1 := (HA.out.two.lt a ha).2; have := (HFW.out.2 g' hg').1; omega⟩) (by omega) (by omega) (by first | omega | (simp only [sz_alloc, sz_set, sz_drew, sz_drewN]; omega) | (simp only [sz_alloc, sz_set, sz_drew, sz_drewN] at *; omega)) ?_
                                         intro D1 d1 w8 hacc hgr hnew
                                         have HS8 : Since w3 w8 := ⟨Acc.since (HAW.out.two.alloc _) hgr (HSW.out.alloc (by first | omega | (simp only [sz_alloc, sz_set, sz_drew, sz_drewN]; omega) | (simp only [sz_alloc, sz_set, sz_drew, sz_drewN] at *; omega)) _) hz4 (by first | omega | (simp only [sz_alloc, sz_set, sz_drew, sz_drewN]; omega) | (simp only [sz_alloc, sz_set, sz_drew, sz_drewN] at *; omega))⟩
                                         have hB8 := (HAW.out.two.alloc (.cells #[.slice R q cr] 83)).box hgr (alloc_block HBW.out hgW) hgl
                                         have f8 : w8.frozen? ⟨g, 3, none⟩ = false := blk_free hB8
                                         have k8 : w8.cell? ⟨g, 3, none⟩ = some (.slice D k m) := cell_of_row w8 _ 3 _ _ (0, 0) hB8
                                         have hg8 : g < w8.heap.size := (Array.getElem?_eq_some_iff.1 hB8).1
                                         have hz8 : w4.heap.size ≤ w8.heap.size := Nat.le_trans (show w4.heap.size ≤ (W.alloc (.cells #[.slice R q cr] 83)).heap.size by simp only [sz_alloc]; omega) hgr.size
                                         have HB8 := Lib.hid hB8
                                         have HA8 := Lib.hid ((HAW.out.alloc (.cells #[.slice R q cr] 83)).grow2 hacc hgr hnew HAP.out)
                                         clear hacc hgr hnew hB8)
                            go_roundw
                            case rel =>
                              refine ⟨k + 1, A4, c4, D1, d1, bs ++ bsr, by omega, by go_num, Lib.hid (blk_set HB8.out _), Lib.hid ?_, Lib.hid (by rw [HTG.out, HAL.out, HY.out.2]; rfl), ⟨HS8.out.setCell hg4 _⟩, (by first | omega | (simp only [sz_alloc, sz_set, sz_drew, sz_drewN]; omega) | (simp only [sz_alloc, sz_set, sz_drew, sz_drewN] at *; omega))⟩
                              rw [HT.out, HRN.out]
                              exact HA8.out.setCell hgl _
                            case measure => simp [intOf]; omega
                          · have qn : (x0 == [110, 111]) = false := lst_ne hy2
                            have HE := Lib.hid (HBR.out (by rw [HRG.out, decide_eq_false hy1, decide_eq_false hy2]; simp))
                            clear hy1 hy2
                            go_wp2
                            have p0 : w6.cell? ⟨w.heap.size, 0, none⟩ = some (.int .i64 0) := by go_simp
                            have p1 : w6.cell? ⟨w.heap.size, 1, none⟩ = some (.int .i64 0) := by go_simp
                            have p2 : w6.cell? ⟨w.heap.size, 2, none⟩ = some (.slice none 0 0) := by go_simp
                            have p3 : w6.cell? ⟨w.heap.size, 3, none⟩ = some (.slice none 0 0) := by go_simp
                            rw [HE.out.1, HE.out.2]
                            exact bodyPost_ret (v := .tuple #[.agg #[.int .i64 0, .int .i64 0, .slice none 0 0, .slice none 0 0], .int .i64 5]) (by simp [results, Tryd.results16, go_sem, p0, p1, p2, p3]) rfl (rr_err (by repeat (first | exact Below.refl _ _ | exact Since.out (by assumption) | refine Below.alloc ?_ (by first | omega | (simp only [sz_alloc, sz_set, sz_drew, sz_drewN]; omega) | (simp only [sz_alloc, sz_set, sz_drew, sz_drewN] at *; omega)) _ | refine Below.setCell ?_ (by first | omega | (simp only [sz_alloc, sz_set, sz_drew, sz_drewN]; omega) | (simp only [sz_alloc, sz_set, sz_drew, sz_drewN] at *; omega)) _ | refine Below.drew ?_ | refine below_drewN_ ?_ _)))
                    · obtain rfl : k = nm := by omega
                      have i5 : ¬ (k : Int) + 1 < (n : Int) := by have := HN1.out; omega
                      have i6 : ¬ (k : Int) + 1 + 1 < (n : Int) + 1 := by have := HN1.out; omega
                      obtain ⟨T, hT⟩ : ∃ T, T = rdOf (l0 :: t) := ⟨_, rfl⟩
                      have hTe : T = ⟨va, vc, mid.map rowYes, mid.map rowNV⟩ := by
                        rw [hT]
                        unfold rdOf
                        rw [HHD.out, HV.out, ← HMD.out]
                        rfl
                      have hAL := HAL.out
                      have hA := HA.out
                      rw [List.take_of_length_le (by rw [← HNM.out]; exact Nat.le_refl _)] at hA hAL
                      have hm1 : T.letters = va := by rw [hTe]
                      have hm2 : T.start = vc := by rw [hTe]
                      have hm3 : T.accept = mid.map rowYes := by rw [hTe]
                      have hm3' : T.next = mid.map rowNV := by rw [hTe]
                      have hm4 : T.accept.length = k := by rw [hm3, List.length_map, HNM.out]
                      have hm5 : T.next.length = k := by rw [hm3', List.length_map, HNM.out]
                      have htot : T.tot ≤ 1048576 := by
                        have hmm := tot_mid (α := Int) (fun _ => rfl) rowNV (fun x => by show (numsV (splitL 32 x).tail).length ≤ _; unfold numsV; rw [List.length_map]; exact tail_len x) (HMI.out ▸ HLS.out)
                        show Cod.tot T.accept + Cod.tot T.next ≤ _
                        rw [tot_list T.accept, totS_zero (fun _ => rfl), hm4, hm3']
                        have hnm := HNM.out
                        omega
                      rw [← hm3, ← hm3'] at hA
                      obtain ⟨b1, b2, ow1, ow2, f2⟩ := hA.own
                      have RA : RdS wo wo.heap.size A T.accept := hA.one.rd
                      have RM : RdS wo wo.heap.size D T.next := hA.two.rd
                      have HBOK := Lib.hid (fun (h : T.okB = false) => rdBadOk H20.out HLS.out (hT ▸ h))
                      have HYES := Lib.hid (fun (h : T.okB = true) => rdYes H20.out HLS.out HDG.out (by rw [← HMD.out]; exact hAL) (hT ▸ h))
                      rw [← hT] at HYES
                      clear hm3 hm3' hA hTe hAL hT
                      have z0 := HB.out
                      have k0 : wo.cell? ⟨g, 0, none⟩ = some (.int .i64 va) := cell_of_row wo _ 0 _ _ (0, 0) z0
                      have k1 : wo.cell? ⟨g, 1, none⟩ = some (.int .i64 vc) := cell_of_row wo _ 1 _ _ (0, 0) z0
                      have k2 : wo.cell? ⟨g, 2, none⟩ = some (.slice A k c) := cell_of_row wo _ 2 _ _ (0, 0) z0
                      have k3 : wo.cell? ⟨g, 3, none⟩ = some (.slice D k m) := cell_of_row wo _ 3 _ _ (0, 0) z0
                      have hgo : g < wo.heap.size := by omega
                      have HM := Lib.hid (And.intro hm1 (And.intro hm2 (And.intro hm4 hm5)))
                      clear z0 hm1 hm2 hm4 hm5
                      go_wp2_with fail
                      refine (l01Ok g A c D m T _ (by rw [HM.out.1]; exact k0) (by rw [HM.out.2.1]; exact k1) (by rw [HM.out.2.2.1]; exact k2) (by rw [HM.out.2.2.2]; exact k3) hgo (RM.up (by repeat (first | exact Below.refl _ _ | exact Since.out (by assumption) | refine Below.alloc ?_ (by first | omega | (simp only [sz_alloc, sz_set, sz_drew, sz_drewN]; omega) | (simp only [sz_alloc, sz_set, sz_drew, sz_drewN] at *; omega)) _ | refine Below.setCell ?_ (by first | omega | (simp only [sz_alloc, sz_set, sz_drew, sz_drewN]; omega) | (simp only [sz_alloc, sz_set, sz_drew, sz_drewN] at *; omega)) _ | refine Below.drew ?_ | refine below_drewN_ ?_ _))) htot).mono ?_
                      rintro e w7 ⟨rfl, hb7⟩
                      have HBw7 : Since w w7 := ⟨below_cat (by repeat (first | exact Below.refl _ _ | exact Since.out (by assumption) | refine Below.alloc ?_ (by first | omega | (simp only [sz_alloc, sz_set, sz_drew, sz_drewN]; omega) | (simp only [sz_alloc, sz_set, sz_drew, sz_drewN] at *; omega)) _ | refine Below.setCell ?_ (by first | omega | (simp only [sz_alloc, sz_set, sz_drew, sz_drewN]; omega) | (simp only [sz_alloc, sz_set, sz_drew, sz_drewN] at *; omega)) _ | refine Below.drew ?_ | refine below_drewN_ ?_ _)) hb7 (by first | omega | (simp only [sz_alloc, sz_set, sz_drew, sz_drewN]; omega) | (simp only [sz_alloc, sz_set, sz_drew, sz_drewN] at *; omega))⟩; have hzw7 := hb7.size; (try simp only [sz_alloc, sz_set, sz_drew, sz_drewN] at hzw7); have hcw7k0 := fun o => hb7.cell (p := ⟨w.heap.size, o, none⟩) (by first | omega | (simp only [sz_alloc, sz_set, sz_drew, sz_drewN]; omega) | (simp only [sz_alloc, sz_set, sz_drew, sz_drewN] at *; omega)); have hfw7k0 := fun o => hb7.frozen (p := ⟨w.heap.size, o, none⟩) (by first | omega | (simp only [sz_alloc, sz_set, sz_drew, sz_drewN]; omega) | (simp only [sz_alloc, sz_set, sz_drew, sz_drewN] at *; omega)); have hlw7k0 : w.heap.size < w7.heap.size := (by first | omega | (simp only [sz_alloc, sz_set, sz_drew, sz_drewN]; omega) | (simp only [sz_alloc, sz_set, sz_drew, sz_drewN] at *; omega))
                      have hcw7g := fun o => hb7.cell (p := ⟨g, o, none⟩) (by first | omega | (simp only [sz_alloc, sz_set, sz_drew, sz_drewN]; omega) | (simp only [sz_alloc, sz_set, sz_drew, sz_drewN] at *; omega)); have hfw7g := fun o => hb7.frozen (p := ⟨g, o, none⟩) (by first | omega | (simp only [sz_alloc, sz_set, sz_drew, sz_drewN]; omega) | (simp only [sz_alloc, sz_set, sz_drew, sz_drewN] at *; omega)); have hlw7g : g < _ := Nat.lt_of_lt_of_le (m := _) (by first | omega | (simp only [sz_alloc, sz_set, sz_drew, sz_drewN]; omega) | (simp only [sz_alloc, sz_set, sz_drew, sz_drewN] at *; omega)) hb7.size
                      have S7 : Since wo w7 := ⟨below_cat (by repeat (first | exact Below.refl _ _ | exact Since.out (by assumption) | refine Below.alloc ?_ (by first | omega | (simp only [sz_alloc, sz_set, sz_drew, sz_drewN]; omega) | (simp only [sz_alloc, sz_set, sz_drew, sz_drewN] at *; omega)) _ | refine Below.setCell ?_ (by first | omega | (simp only [sz_alloc, sz_set, sz_drew, sz_drewN]; omega) | (simp only [sz_alloc, sz_set, sz_drew, sz_drewN] at *; omega)) _ | refine Below.drew ?_ | refine below_drewN_ ?_ _)) hb7 (by first | omega | (simp only [sz_alloc, sz_set, sz_drew, sz_drewN]; omega) | (simp only [sz_alloc, sz_set, sz_drew, sz_drewN] at *; omega))⟩
                      cases hok : T.okB with
                      | true =>
                        have HE := Lib.hid (HYES.out hok)
                        clear hok
                        go_wp2
                        have p0 : w7.cell? ⟨w.heap.size, 0, none⟩ = some (.int .i64 0) := by go_simp
                        have p1 : w7.cell? ⟨w.heap.size, 1, none⟩ = some (.int .i64 0) := by go_simp
                        have p2 : w7.cell? ⟨w.heap.size, 2, none⟩ = some (.slice none 0 0) := by go_simp
                        have p3 : w7.cell? ⟨w.heap.size, 3, none⟩ = some (.slice none 0 0) := by go_simp
                        rw [HE.out.1, HE.out.2]
                        refine bodyPost_ret (v := .tuple #[.agg #[.int .i64 va, .int .i64 vc, .slice A k c, .slice D k m], .int .i64 0]) (by simp [results, Tryd.results16, go_sem, p0, p1, p2, p3]) rfl
                          ⟨_, b1 ++ b2, rfl, ⟨A, c, D, m, b1, b2, by rw [HM.out.1, HM.out.2.1, HM.out.2.2.1, HM.out.2.2.2], (ow1.below S7.out (fun g hg => (f2.2 g (List.mem_append_left _ hg)).2)).only (bs' := [w.heap.size]) (by repeat (first | with_reducible exact OnlyB.refl _ _ | with_reducible refine OnlyB.setCell ?_ (by simp) _ | with_reducible refine OnlyB.alloc ?_ _ | with_reducible refine OnlyB.drew ?_ | refine OnlyB.trans ?_ (OnlyB.of_below (by assumption) _))) (fun g hg => ?_), (ow2.below S7.out (fun g hg => (f2.2 g (List.mem_append_right _ hg)).2)).only (bs' := [w.heap.size]) (by repeat (first | with_reducible exact OnlyB.refl _ _ | with_reducible refine OnlyB.setCell ?_ (by simp) _ | with_reducible refine OnlyB.alloc ?_ _ | with_reducible refine OnlyB.drew ?_ | refine OnlyB.trans ?_ (OnlyB.of_below (by assumption) _))) (fun g hg => ?_), rfl⟩, (f2.low (by first | omega | (simp only [sz_alloc, sz_set, sz_drew, sz_drewN]; omega) | (simp only [sz_alloc, sz_set, sz_drew, sz_drewN] at *; omega))).more (by first | omega | (simp only [sz_alloc, sz_set, sz_drew, sz_drewN]; omega) | (simp only [sz_alloc, sz_set, sz_drew, sz_drewN] at *; omega)), (by repeat (first | exact Below.refl _ _ | exact Since.out (by assumption) | refine Below.alloc ?_ (by first | omega | (simp only [sz_alloc, sz_set, sz_drew, sz_drewN]; omega) | (simp only [sz_alloc, sz_set, sz_drew, sz_drewN] at *; omega)) _ | refine Below.setCell ?_ (by first | omega | (simp only [sz_alloc, sz_set, sz_drew, sz_drewN]; omega) | (simp only [sz_alloc, sz_set, sz_drew, sz_drewN] at *; omega)) _ | refine Below.drew ?_ | refine below_drewN_ ?_ _))⟩
                        · have := f2.2 g (List.mem_append_left _ hg); simp; omega
                        · have := f2.2 g (List.mem_append_right _ hg); simp; omega
                      | false =>
                        have HE := Lib.hid (HBOK.out hok)
                        clear hok
                        go_wp2
                        have p0 : w7.cell? ⟨w.heap.size, 0, none⟩ = some (.int .i64 0) := by go_simp
                        have p1 : w7.cell? ⟨w.heap.size, 1, none⟩ = some (.int .i64 0) := by go_simp
                        have p2 : w7.cell? ⟨w.heap.size, 2, none⟩ = some (.slice none 0 0) := by go_simp
                        have p3 : w7.cell? ⟨w.heap.size, 3, none⟩ = some (.slice none 0 0) := by go_simp
                        rw [HE.out.1, HE.out.2]
                        exact bodyPost_ret (v := .tuple #[.agg #[.int .i64 0, .int .i64 0, .slice none 0 0, .slice none 0 0], .int .i64 5]) (by simp [results, Tryd.results16, go_sem, p0, p1, p2, p3]) rfl (rr_err (by repeat (first | exact Below.refl _ _ | exact Since.out (by assumption) | refine Below.alloc ?_ (by first | omega | (simp only [sz_alloc, sz_set, sz_drew, sz_drewN]; omega) | (simp only [sz_alloc, sz_set, sz_drew, sz_drewN] at *; omega)) _ | refine Below.setCell ?_ (by first | omega | (simp only [sz_alloc, sz_set, sz_drew, sz_drewN]; omega) | (simp only [sz_alloc, sz_set, sz_drew, sz_drewN] at *; omega)) _ | refine Below.drew ?_ | refine below_drewN_ ?_ _)))
              · have qL : ((n : Int) + 1 == vb + 2) = false := by rw [beq_eq_false_iff_ne]; exact hL
                have HE := Lib.hid (rdBad H20.out HLS.out (docBad5 (by rw [HHD.out, HV.out, List.length_cons, ← HN.out]; simpa using hL)))
                clear hL
                go_wp2
                have p0 : w3.cell? ⟨w.heap.size, 0, none⟩ = some (.int .i64 0) := by go_simp
                have p1 : w3.cell? ⟨w.heap.size, 1, none⟩ = some (.int .i64 0) := by go_simp
                have p2 : w3.cell? ⟨w.heap.size, 2, none⟩ = some (.slice none 0 0) := by go_simp
                have p3 : w3.cell? ⟨w.heap.size, 3, none⟩ = some (.slice none 0 0) := by go_simp
                rw [HE.out.1, HE.out.2]
                exact bodyPost_ret (v := .tuple #[.agg #[.int .i64 0, .int .i64 0, .slice none 0 0, .slice none 0 0], .int .i64 5]) (by simp [results, Tryd.results16, go_sem, p0, p1, p2, p3]) rfl (rr_err (by repeat (first | exact Below.refl _ _ | exact Since.out (by assumption) | refine Below.alloc ?_ (by first | omega | (simp only [sz_alloc, sz_set, sz_drew, sz_drewN]; omega) | (simp only [sz_alloc, sz_set, sz_drew, sz_drewN] at *; omega)) _ | refine Below.setCell ?_ (by first | omega | (simp only [sz_alloc, sz_set, sz_drew, sz_drewN]; omega) | (simp only [sz_alloc, sz_set, sz_drew, sz_drewN] at *; omega)) _ | refine Below.drew ?_ | refine below_drewN_ ?_ _)))
            · have qz : (z == []) = false := lst_ne hz0
              have HE := Lib.hid (rdBad H20.out HLS.out (docBad4 (by rw [HLZ.out]; simpa using hz0)))
              clear hz0
              go_wp2
              have p0 : w3.cell? ⟨w.heap.size, 0, none⟩ = some (.int .i64 0) := by go_simp
              have p1 : w3.cell? ⟨w.heap.size, 1, none⟩ = some (.int .i64 0) := by go_simp
              have p2 : w3.cell? ⟨w.heap.size, 2, none⟩ = some (.slice none 0 0) := by go_simp
              have p3 : w3.cell? ⟨w.heap.size, 3, none⟩ = some (.slice none 0 0) := by go_simp
              rw [HE.out.1, HE.out.2]
              exact bodyPost_ret (v := .tuple #[.agg #[.int .i64 0, .int .i64 0, .slice none 0 0, .slice none 0 0], .int .i64 5]) (by simp [results, Tryd.results16, go_sem, p0, p1, p2, p3]) rfl (rr_err (by repeat (first | exact Below.refl _ _ | exact Since.out (by assumption) | refine Below.alloc ?_ (by first | omega | (simp only [sz_alloc, sz_set, sz_drew, sz_drewN]; omega) | (simp only [sz_alloc, sz_set, sz_drew, sz_drewN] at *; omega)) _ | refine Below.setCell ?_ (by first | omega | (simp only [sz_alloc, sz_set, sz_drew, sz_drewN]; omega) | (simp only [sz_alloc, sz_set, sz_drew, sz_drewN] at *; omega)) _ | refine Below.drew ?_ | refine below_drewN_ ?_ _)))
          · have q3 : ((p : Int) == 3) = false := by
              simp only [beq_eq_false_iff_ne, ne_eq]
              omega
            have q3' : ((p : Int) != 3) = true := by
              simp only [bne_iff_ne, ne_eq]
              omega
            have HE := Lib.hid (rdBad H20.out HLS.out (docBad3 (by rw [HHD.out, ← HP.out]; exact h3)))
            clear h3
            go_wp2
            have p0 : w3.cell? ⟨w.heap.size, 0, none⟩ = some (.int .i64 0) := by go_simp
            have p1 : w3.cell? ⟨w.heap.size, 1, none⟩ = some (.int .i64 0) := by go_simp
            have p2 : w3.cell? ⟨w.heap.size, 2, none⟩ = some (.slice none 0 0) := by go_simp
            have p3 : w3.cell? ⟨w.heap.size, 3, none⟩ = some (.slice none 0 0) := by go_simp
            rw [HE.out.1, HE.out.2]
            exact bodyPost_ret (v := .tuple #[.agg #[.int .i64 0, .int .i64 0, .slice none 0 0, .slice none 0 0], .int .i64 5]) (by simp [results, Tryd.results16, go_sem, p0, p1, p2, p3]) rfl (rr_err (by repeat (first | exact Below.refl _ _ | exact Since.out (by assumption) | refine Below.alloc ?_ (by first | omega | (simp only [sz_alloc, sz_set, sz_drew, sz_drewN]; omega) | (simp only [sz_alloc, sz_set, sz_drew, sz_drewN] at *; omega)) _ | refine Below.setCell ?_ (by first | omega | (simp only [sz_alloc, sz_set, sz_drew, sz_drewN]; omega) | (simp only [sz_alloc, sz_set, sz_drew, sz_drewN] at *; omega)) _ | refine Below.drew ?_ | refine below_drewN_ ?_ _)))
        · have qw : (w0 == [114, 101, 97, 100, 101, 114]) = false := lst_ne hw
          have HE := Lib.hid (rdBad H20.out HLS.out (docBad2 (by rw [HHD.out, HW0.out]; simpa using hw)))
          clear hw
          go_wp2
          have p0 : w3.cell? ⟨w.heap.size, 0, none⟩ = some (.int .i64 0) := by go_simp
          have p1 : w3.cell? ⟨w.heap.size, 1, none⟩ = some (.int .i64 0) := by go_simp
          have p2 : w3.cell? ⟨w.heap.size, 2, none⟩ = some (.slice none 0 0) := by go_simp
          have p3 : w3.cell? ⟨w.heap.size, 3, none⟩ = some (.slice none 0 0) := by go_simp
          rw [HE.out.1, HE.out.2]
          exact bodyPost_ret (v := .tuple #[.agg #[.int .i64 0, .int .i64 0, .slice none 0 0, .slice none 0 0], .int .i64 5]) (by simp [results, Tryd.results16, go_sem, p0, p1, p2, p3]) rfl (rr_err (by repeat (first | exact Below.refl _ _ | exact Since.out (by assumption) | refine Below.alloc ?_ (by first | omega | (simp only [sz_alloc, sz_set, sz_drew, sz_drewN]; omega) | (simp only [sz_alloc, sz_set, sz_drew, sz_drewN] at *; omega)) _ | refine Below.setCell ?_ (by first | omega | (simp only [sz_alloc, sz_set, sz_drew, sz_drewN]; omega) | (simp only [sz_alloc, sz_set, sz_drew, sz_drewN] at *; omega)) _ | refine Below.drew ?_ | refine below_drewN_ ?_ _)))
end Go.Proofs.YtelmooaenodfaaaDoor
