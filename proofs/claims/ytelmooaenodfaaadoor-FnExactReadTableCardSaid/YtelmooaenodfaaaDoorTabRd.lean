/-
  The reference's ReadTable. Conditions: those in each statement.
-/
import Derived.Test.YtelmooaenodfaaaDoorTabLaw
set_option linter.unusedVariables false
set_option linter.unusedSimpArgs false
set_option maxRecDepth 100000
set_option maxHeartbeats 1000000
namespace Go.Proofs.YtelmooaenodfaaaDoor
open Go.RowKit

theorem tab_err {w wo : World} {code : Int} (hb : Below w.heap.size w wo) : RetTbC ⟨[], []⟩ code w (.returned (.tuple #[.agg #[.slice none 0 0, .slice none 0 0], .int .i64 code])) wo :=
  ⟨_, [], rfl, ⟨none, 0, none, 0, [], [], rfl, .inl ⟨rfl, rfl⟩, .inl ⟨rfl, rfl⟩, rfl⟩, ⟨List.nodup_nil, fun g hg => by simp at hg⟩, hb⟩
theorem Fresh.cat {B : Nat} {w w' : World} {a b : List Nat} (h1 : Fresh B w a) (h2 : Fresh w.heap.size w' b) (hB : B ≤ w.heap.size := by omega) (hw : w.heap.size ≤ w'.heap.size := by omega) : Fresh B w' (a ++ b) :=
  ⟨List.nodup_append.2 ⟨h1.1, h2.1, fun x hx y hy e => by have := h1.2 x hx; have := h2.2 y hy; omega⟩, fun g hg => by
    rcases List.mem_append.1 hg with hg | hg
    · have := h1.2 g hg; omega
    · have := h2.2 g hg; omega⟩
theorem Fresh.low {B B' : Nat} {w : World} {a : List Nat} (h : Fresh B w a) (hB : B' ≤ B) : Fresh B' w a := ⟨h.1, fun g hg => ⟨Nat.le_trans hB (h.2 g hg).1, (h.2 g hg).2⟩⟩
/-- The strict reading of a line: whether it is one, and the exits. -/
def RetEx (G : Bool) (V : List (Int × Int)) (n : Nat) (w : World) (e : Ending) (w' : World) : Prop :=
  ∃ A c bs, ∃ ys : List (Int × Int), e = .returned (.tuple #[.slice A ys.length c, .bool G]) ∧ (G = true → ys = V) ∧ ys.length ≤ n ∧ OwnS w' A ys bs ∧ Fresh w.heap.size w' bs ∧ Below w.heap.size w w'

set_option maxHeartbeats 8000000 in
theorem readTable_spec (l : List UInt8) (w : World) (hl : l.length ≤ 1048576) : Calls Tryd.prog 11 #[.string (str l)] w (RetTbC (tabC l) (tabCode l) w) := by
  have hsz := str_size l
  have us : ¬ 9223372036854775807 < (str l).size := by rw [str_size]; omega
  have tl := str_list
  by_cases h20 : 20000 < l.length
  · have hC : tabC l = ⟨[], []⟩ := by unfold tabC; rw [if_pos h20]
    have hD : tabCode l = 2 := by unfold tabCode; rw [if_pos h20]
    rw [hC, hD]
    have i1 : (20000 : Int) < (l.length : Int) := by omega
    clear hC hD h20
    go_enter Tryd.func11, Tryd.ntmps11
    go_wp2
    exact bodyPost_ret (v := .tuple #[.agg #[.slice none 0 0, .slice none 0 0], .int .i64 2]) (by simp [results, Tryd.results11, go_sem]) rfl (tab_err (by repeat (first | exact Below.refl _ _ | refine Below.alloc ?_ (by first | omega | (simp only [sz_alloc, sz_set, sz_drew, sz_drewN]; omega) | (simp only [sz_alloc, sz_set, sz_drew, sz_drewN] at *; omega)) _ | refine Below.setCell ?_ (by first | omega | (simp only [sz_alloc, sz_set, sz_drew, sz_drewN]; omega) | (simp only [sz_alloc, sz_set, sz_drew, sz_drewN] at *; omega)) _ | refine Below.drew ?_ | refine below_drewN_ ?_ _)))
  · have HC : Hid (tabC l = (tabS3 (splitL 10 l)).getD ⟨[], []⟩) := Lib.hid (by unfold tabC; rw [if_neg h20]; rfl)
    have HD : Hid (tabCode l = if (tabS3 (splitL 10 l)).isSome = true then 0 else 5) := Lib.hid (by unfold tabCode; rw [if_neg h20]; rfl)
    have i1 : ¬ (20000 : Int) < (l.length : Int) := by omega
    have hin : ∀ x ∈ splitL 10 l, x.length ≤ l.length := splitL_in 10 l
    have hlen := splitL_len 10 l
    have HS := Lib.hid (fun W => split_spec l 10 10 rfl W hl)
    obtain ⟨xs, hxs⟩ : ∃ xs, xs = splitL 10 l := ⟨_, rfl⟩
    rw [← hxs] at HC HD hin HS hlen
    clear hxs
    by_cases h3 : xs.length = 3
    · obtain ⟨a, b, c, rfl⟩ : ∃ a b c, xs = [a, b, c] := by
        match xs, h3 with
        | [a, b, c], _ => exact ⟨a, b, c, rfl⟩
      have ha := hin a (by simp)
      have hb := hin b (by simp)
      clear hin h3 hlen
      by_cases hc : c = []
      · have qc : (c == []) = true := lst_eq hc
        have HCC : Hid (tabS3 [a, b, c] = if tabGood a b = true then some (tabOf a b) else none) := Lib.hid (by subst hc; rfl)
        clear hc
        have hla := splitL_len 32 a
        have hlb := splitL_len 32 b
        obtain ⟨G1, hG1⟩ : ∃ G, G = (decide ((splitL 32 a)[0]? = some leftT) && (splitL 32 a).tail.all exOk) := ⟨_, rfl⟩
        obtain ⟨G2, hG2⟩ : ∃ G, G = (decide ((splitL 32 b)[0]? = some rightT) && (splitL 32 b).tail.all exOk) := ⟨_, rfl⟩
        have HG : Hid (tabGood a b = (G1 && (G2 && (tabOf a b).okB))) := Lib.hid (by rw [hG1, hG2]; rfl)
        have HA : Hid (∀ W, Calls Tryd.prog 45 #[.string (str a), .string ⟨#[108, 101, 102, 116]⟩] W (RetEx G1 (tabOf a b).l 20000 W)) := Lib.hid (fun W => (l03Read_spec a leftT W (by omega)).mono fun e w' ⟨A, c, bs, ys, e1, e2, e3, e4, e5, e6⟩ => ⟨A, c, bs, ys, by rw [hG1]; exact e1, by rw [hG1]; exact e2, by rw [List.length_tail] at e3; omega, e4, e5, e6⟩)
        have HB : Hid (∀ W, Calls Tryd.prog 45 #[.string (str b), .string ⟨#[114, 105, 103, 104, 116]⟩] W (RetEx G2 (tabOf a b).r 20000 W)) := Lib.hid (fun W => (l03Read_spec b rightT W (by omega)).mono fun e w' ⟨A, c, bs, ys, e1, e2, e3, e4, e5, e6⟩ => ⟨A, c, bs, ys, by rw [hG2]; exact e1, by rw [hG2]; exact e2, by rw [List.length_tail] at e3; omega, e4, e5, e6⟩)
        clear hG1 hG2 hla hlb
        obtain ⟨T, hT⟩ : ∃ T, T = tabOf a b := ⟨_, rfl⟩
        rw [← hT] at HCC HG HA HB
        clear hT
        go_enter Tryd.func11, Tryd.ntmps11
        go_wp2_with fail
        refine (HS.out _).mono ?_
        rintro e w1 ⟨A, m, rfl, r, -, hb1⟩
        have HBw1 : Since w w1 := ⟨below_cat (by repeat (first | exact Below.refl _ _ | exact Since.out (by assumption) | refine Below.alloc ?_ (by first | omega | (simp only [sz_alloc, sz_set, sz_drew, sz_drewN]; omega) | (simp only [sz_alloc, sz_set, sz_drew, sz_drewN] at *; omega)) _ | refine Below.setCell ?_ (by first | omega | (simp only [sz_alloc, sz_set, sz_drew, sz_drewN]; omega) | (simp only [sz_alloc, sz_set, sz_drew, sz_drewN] at *; omega)) _ | refine Below.drew ?_ | refine below_drewN_ ?_ _)) hb1 (by first | omega | (simp only [sz_alloc, sz_set, sz_drew, sz_drewN]; omega) | (simp only [sz_alloc, sz_set, sz_drew, sz_drewN] at *; omega))⟩; have hzw1 := hb1.size; (try simp only [sz_alloc, sz_set, sz_drew, sz_drewN] at hzw1); have hcw1k0 := fun o => hb1.cell (p := ⟨w.heap.size, o, none⟩) (by first | omega | (simp only [sz_alloc, sz_set, sz_drew, sz_drewN]; omega) | (simp only [sz_alloc, sz_set, sz_drew, sz_drewN] at *; omega)); have hfw1k0 := fun o => hb1.frozen (p := ⟨w.heap.size, o, none⟩) (by first | omega | (simp only [sz_alloc, sz_set, sz_drew, sz_drewN]; omega) | (simp only [sz_alloc, sz_set, sz_drew, sz_drewN] at *; omega)); have hlw1k0 : w.heap.size < w1.heap.size := (by first | omega | (simp only [sz_alloc, sz_set, sz_drew, sz_drewN]; omega) | (simp only [sz_alloc, sz_set, sz_drew, sz_drewN] at *; omega))
        rw [show ([a, b, c] : List (List UInt8)).length = 3 from rfl]
        obtain ⟨g, o, rfl, hg, ca⟩ := r.bs (bs_get (k := 0) (x := a) rfl)
        obtain ⟨g', o', e', _, cb⟩ := r.bs (bs_get (k := 1) (x := b) rfl)
        cases e'
        obtain ⟨g', o', e', _, cc⟩ := r.bs (bs_get (k := 2) (x := c) rfl)
        cases e'
        rw [Nat.add_zero] at ca
        clear r
        go_wp2_with fail
        refine (HA.out _).mono ?_
        rintro e w2 ⟨A1, c1, bs1, ys1, rfl, hy1, hn1, o1, f1, hb2⟩
        have HBw2 : Since w w2 := ⟨below_cat (by repeat (first | exact Below.refl _ _ | exact Since.out (by assumption) | refine Below.alloc ?_ (by first | omega | (simp only [sz_alloc, sz_set, sz_drew, sz_drewN]; omega) | (simp only [sz_alloc, sz_set, sz_drew, sz_drewN] at *; omega)) _ | refine Below.setCell ?_ (by first | omega | (simp only [sz_alloc, sz_set, sz_drew, sz_drewN]; omega) | (simp only [sz_alloc, sz_set, sz_drew, sz_drewN] at *; omega)) _ | refine Below.drew ?_ | refine below_drewN_ ?_ _)) hb2 (by first | omega | (simp only [sz_alloc, sz_set, sz_drew, sz_drewN]; omega) | (simp only [sz_alloc, sz_set, sz_drew, sz_drewN] at *; omega))⟩; have hzw2 := hb2.size; (try simp only [sz_alloc, sz_set, sz_drew, sz_drewN] at hzw2); have hcw2k0 := fun o => hb2.cell (p := ⟨w.heap.size, o, none⟩) (by first | omega | (simp only [sz_alloc, sz_set, sz_drew, sz_drewN]; omega) | (simp only [sz_alloc, sz_set, sz_drew, sz_drewN] at *; omega)); have hfw2k0 := fun o => hb2.frozen (p := ⟨w.heap.size, o, none⟩) (by first | omega | (simp only [sz_alloc, sz_set, sz_drew, sz_drewN]; omega) | (simp only [sz_alloc, sz_set, sz_drew, sz_drewN] at *; omega)); have hlw2k0 : w.heap.size < w2.heap.size := (by first | omega | (simp only [sz_alloc, sz_set, sz_drew, sz_drewN]; omega) | (simp only [sz_alloc, sz_set, sz_drew, sz_drewN] at *; omega))
        have cb2 := (hb2.cell (p := ⟨g, o + 1, none⟩) hg).trans cb
        clear cb ca cc
        go_wp2_with fail
        refine (HB.out _).mono ?_
        rintro e w3 ⟨A2, c2, bs2, ys2, rfl, hy2, hn2, o2, f2, hb3⟩
        have HBw3 : Since w w3 := ⟨below_cat (by repeat (first | exact Below.refl _ _ | exact Since.out (by assumption) | refine Below.alloc ?_ (by first | omega | (simp only [sz_alloc, sz_set, sz_drew, sz_drewN]; omega) | (simp only [sz_alloc, sz_set, sz_drew, sz_drewN] at *; omega)) _ | refine Below.setCell ?_ (by first | omega | (simp only [sz_alloc, sz_set, sz_drew, sz_drewN]; omega) | (simp only [sz_alloc, sz_set, sz_drew, sz_drewN] at *; omega)) _ | refine Below.drew ?_ | refine below_drewN_ ?_ _)) hb3 (by first | omega | (simp only [sz_alloc, sz_set, sz_drew, sz_drewN]; omega) | (simp only [sz_alloc, sz_set, sz_drew, sz_drewN] at *; omega))⟩; have hzw3 := hb3.size; (try simp only [sz_alloc, sz_set, sz_drew, sz_drewN] at hzw3); have hcw3k0 := fun o => hb3.cell (p := ⟨w.heap.size, o, none⟩) (by first | omega | (simp only [sz_alloc, sz_set, sz_drew, sz_drewN]; omega) | (simp only [sz_alloc, sz_set, sz_drew, sz_drewN] at *; omega)); have hfw3k0 := fun o => hb3.frozen (p := ⟨w.heap.size, o, none⟩) (by first | omega | (simp only [sz_alloc, sz_set, sz_drew, sz_drewN]; omega) | (simp only [sz_alloc, sz_set, sz_drew, sz_drewN] at *; omega)); have hlw3k0 : w.heap.size < w3.heap.size := (by first | omega | (simp only [sz_alloc, sz_set, sz_drew, sz_drewN]; omega) | (simp only [sz_alloc, sz_set, sz_drew, sz_drewN] at *; omega))
        have S23 : Since w2 w3 := ⟨hb3⟩
        have S33 : Since w3 w3 := ⟨Below.refl _ _⟩
        clear cb2
        by_cases hG : (G1 && G2) = true
        · rw [Bool.and_eq_true] at hG
          obtain ⟨rfl, rfl⟩ := hG
          obtain rfl := hy1 rfl
          obtain rfl := hy2 rfl
          have R1 : RdS w2 w2.heap.size A1 T.l := o1.rd fun g hg => (f1.2 g hg).2
          have R2 : RdS w3 w3.heap.size A2 T.r := o2.rd fun g hg => (f2.2 g hg).2
          have htot : T.tot ≤ 1048576 := by unfold Tb.tot; omega
          go_wp2_with fail
          refine (l03Ok w3.heap.size A1 A2 T c1 c2 _ (by go_simp) (by go_simp) (by first | omega | (simp only [sz_alloc, sz_set, sz_drew, sz_drewN]; omega) | (simp only [sz_alloc, sz_set, sz_drew, sz_drewN] at *; omega)) (R1.up (by repeat (first | exact Below.refl _ _ | exact Since.out (by assumption) | refine Below.alloc ?_ (by first | omega | (simp only [sz_alloc, sz_set, sz_drew, sz_drewN]; omega) | (simp only [sz_alloc, sz_set, sz_drew, sz_drewN] at *; omega)) _ | refine Below.setCell ?_ (by first | omega | (simp only [sz_alloc, sz_set, sz_drew, sz_drewN]; omega) | (simp only [sz_alloc, sz_set, sz_drew, sz_drewN] at *; omega)) _ | refine Below.drew ?_ | refine below_drewN_ ?_ _))) (R2.up (by repeat (first | exact Below.refl _ _ | exact Since.out (by assumption) | refine Below.alloc ?_ (by first | omega | (simp only [sz_alloc, sz_set, sz_drew, sz_drewN]; omega) | (simp only [sz_alloc, sz_set, sz_drew, sz_drewN] at *; omega)) _ | refine Below.setCell ?_ (by first | omega | (simp only [sz_alloc, sz_set, sz_drew, sz_drewN]; omega) | (simp only [sz_alloc, sz_set, sz_drew, sz_drewN] at *; omega)) _ | refine Below.drew ?_ | refine below_drewN_ ?_ _))) htot).mono ?_
          rintro e w4 ⟨rfl, hb4⟩
          have HBw4 : Since w w4 := ⟨below_cat (by repeat (first | exact Below.refl _ _ | exact Since.out (by assumption) | refine Below.alloc ?_ (by first | omega | (simp only [sz_alloc, sz_set, sz_drew, sz_drewN]; omega) | (simp only [sz_alloc, sz_set, sz_drew, sz_drewN] at *; omega)) _ | refine Below.setCell ?_ (by first | omega | (simp only [sz_alloc, sz_set, sz_drew, sz_drewN]; omega) | (simp only [sz_alloc, sz_set, sz_drew, sz_drewN] at *; omega)) _ | refine Below.drew ?_ | refine below_drewN_ ?_ _)) hb4 (by first | omega | (simp only [sz_alloc, sz_set, sz_drew, sz_drewN]; omega) | (simp only [sz_alloc, sz_set, sz_drew, sz_drewN] at *; omega))⟩; have hzw4 := hb4.size; (try simp only [sz_alloc, sz_set, sz_drew, sz_drewN] at hzw4); have hcw4k0 := fun o => hb4.cell (p := ⟨w.heap.size, o, none⟩) (by first | omega | (simp only [sz_alloc, sz_set, sz_drew, sz_drewN]; omega) | (simp only [sz_alloc, sz_set, sz_drew, sz_drewN] at *; omega)); have hfw4k0 := fun o => hb4.frozen (p := ⟨w.heap.size, o, none⟩) (by first | omega | (simp only [sz_alloc, sz_set, sz_drew, sz_drewN]; omega) | (simp only [sz_alloc, sz_set, sz_drew, sz_drewN] at *; omega)); have hlw4k0 : w.heap.size < w4.heap.size := (by first | omega | (simp only [sz_alloc, sz_set, sz_drew, sz_drewN]; omega) | (simp only [sz_alloc, sz_set, sz_drew, sz_drewN] at *; omega))
          have hcw4a := fun o => hb4.cell (p := ⟨w3.heap.size, o, none⟩) (by first | omega | (simp only [sz_alloc, sz_set, sz_drew, sz_drewN]; omega) | (simp only [sz_alloc, sz_set, sz_drew, sz_drewN] at *; omega)); have hfw4a := fun o => hb4.frozen (p := ⟨w3.heap.size, o, none⟩) (by first | omega | (simp only [sz_alloc, sz_set, sz_drew, sz_drewN]; omega) | (simp only [sz_alloc, sz_set, sz_drew, sz_drewN] at *; omega)); have hlw4a : w3.heap.size < _ := Nat.lt_of_lt_of_le (m := _) (by first | omega | (simp only [sz_alloc, sz_set, sz_drew, sz_drewN]; omega) | (simp only [sz_alloc, sz_set, sz_drew, sz_drewN] at *; omega)) hb4.size
          have S24 : Since w2 w4 := ⟨below_cat (by repeat (first | exact Below.refl _ _ | exact Since.out (by assumption) | refine Below.alloc ?_ (by first | omega | (simp only [sz_alloc, sz_set, sz_drew, sz_drewN]; omega) | (simp only [sz_alloc, sz_set, sz_drew, sz_drewN] at *; omega)) _ | refine Below.setCell ?_ (by first | omega | (simp only [sz_alloc, sz_set, sz_drew, sz_drewN]; omega) | (simp only [sz_alloc, sz_set, sz_drew, sz_drewN] at *; omega)) _ | refine Below.drew ?_ | refine below_drewN_ ?_ _)) hb4 (by first | omega | (simp only [sz_alloc, sz_set, sz_drew, sz_drewN]; omega) | (simp only [sz_alloc, sz_set, sz_drew, sz_drewN] at *; omega))⟩
          have S34 : Since w3 w4 := ⟨below_cat (by repeat (first | exact Below.refl _ _ | exact Since.out (by assumption) | refine Below.alloc ?_ (by first | omega | (simp only [sz_alloc, sz_set, sz_drew, sz_drewN]; omega) | (simp only [sz_alloc, sz_set, sz_drew, sz_drewN] at *; omega)) _ | refine Below.setCell ?_ (by first | omega | (simp only [sz_alloc, sz_set, sz_drew, sz_drewN]; omega) | (simp only [sz_alloc, sz_set, sz_drew, sz_drewN] at *; omega)) _ | refine Below.drew ?_ | refine below_drewN_ ?_ _)) hb4 (by first | omega | (simp only [sz_alloc, sz_set, sz_drew, sz_drewN]; omega) | (simp only [sz_alloc, sz_set, sz_drew, sz_drewN] at *; omega))⟩
          by_cases hok : T.okB = true
          · have HE : tabC l = T ∧ tabCode l = 0 := by
              rw [HC.out, HD.out, HCC.out, HG.out, hok]
              exact ⟨rfl, rfl⟩
            rw [hok]
            clear hok
            have HE := Lib.hid HE
            go_wp2
            have q0 : w4.cell? ⟨w.heap.size, 0, none⟩ = some (.slice none 0 0) := by go_simp
            have q1 : w4.cell? ⟨w.heap.size, 1, none⟩ = some (.slice none 0 0) := by go_simp
            rw [HE.out.1, HE.out.2]
            refine bodyPost_ret (v := .tuple #[.agg #[.slice A1 T.l.length c1, .slice A2 T.r.length c2], .int .i64 0]) (by simp [results, Tryd.results11, go_sem, q0, q1]) rfl
              ⟨_, bs1 ++ bs2, rfl, ⟨A1, c1, A2, c2, bs1, bs2, rfl, (o1.below S24.out (fun g hg => (f1.2 g hg).2)).only (bs' := [w.heap.size]) (by repeat (first | with_reducible exact OnlyB.refl _ _ | with_reducible refine OnlyB.setCell ?_ (by simp) _ | with_reducible refine OnlyB.alloc ?_ _ | with_reducible refine OnlyB.drew ?_ | refine OnlyB.trans ?_ (OnlyB.of_below (by assumption) _))) (fun g hg => ?_), (o2.below S34.out (fun g hg => (f2.2 g hg).2)).only (bs' := [w.heap.size]) (by repeat (first | with_reducible exact OnlyB.refl _ _ | with_reducible refine OnlyB.setCell ?_ (by simp) _ | with_reducible refine OnlyB.alloc ?_ _ | with_reducible refine OnlyB.drew ?_ | refine OnlyB.trans ?_ (OnlyB.of_below (by assumption) _))) (fun g hg => ?_), rfl⟩, ((f1.cat f2).low (by first | omega | (simp only [sz_alloc, sz_set, sz_drew, sz_drewN]; omega) | (simp only [sz_alloc, sz_set, sz_drew, sz_drewN] at *; omega))).more (by first | omega | (simp only [sz_alloc, sz_set, sz_drew, sz_drewN]; omega) | (simp only [sz_alloc, sz_set, sz_drew, sz_drewN] at *; omega)), (by repeat (first | exact Below.refl _ _ | exact Since.out (by assumption) | refine Below.alloc ?_ (by first | omega | (simp only [sz_alloc, sz_set, sz_drew, sz_drewN]; omega) | (simp only [sz_alloc, sz_set, sz_drew, sz_drewN] at *; omega)) _ | refine Below.setCell ?_ (by first | omega | (simp only [sz_alloc, sz_set, sz_drew, sz_drewN]; omega) | (simp only [sz_alloc, sz_set, sz_drew, sz_drewN] at *; omega)) _ | refine Below.drew ?_ | refine below_drewN_ ?_ _))⟩
            · have := f1.2 g hg; simp; omega
            · have := f2.2 g hg; simp; omega
          · have hok := Bool.not_eq_true _ |>.mp hok
            have HE : tabC l = ⟨[], []⟩ ∧ tabCode l = 5 := by
              rw [HC.out, HD.out, HCC.out, HG.out, hok]
              exact ⟨rfl, rfl⟩
            rw [hok]
            clear hok
            have HE := Lib.hid HE
            go_wp2
            have q0 : w4.cell? ⟨w.heap.size, 0, none⟩ = some (.slice none 0 0) := by go_simp
            have q1 : w4.cell? ⟨w.heap.size, 1, none⟩ = some (.slice none 0 0) := by go_simp
            rw [HE.out.1, HE.out.2]
            exact bodyPost_ret (v := .tuple #[.agg #[.slice none 0 0, .slice none 0 0], .int .i64 5]) (by simp [results, Tryd.results11, go_sem, q0, q1]) rfl (tab_err (by repeat (first | exact Below.refl _ _ | exact Since.out (by assumption) | refine Below.alloc ?_ (by first | omega | (simp only [sz_alloc, sz_set, sz_drew, sz_drewN]; omega) | (simp only [sz_alloc, sz_set, sz_drew, sz_drewN] at *; omega)) _ | refine Below.setCell ?_ (by first | omega | (simp only [sz_alloc, sz_set, sz_drew, sz_drewN]; omega) | (simp only [sz_alloc, sz_set, sz_drew, sz_drewN] at *; omega)) _ | refine Below.drew ?_ | refine below_drewN_ ?_ _)))
        · have hG := Bool.not_eq_true _ |>.mp hG
          have HE : tabC l = ⟨[], []⟩ ∧ tabCode l = 5 := by
            rw [HC.out, HD.out, HCC.out, HG.out, ← Bool.and_assoc, hG]
            exact ⟨rfl, rfl⟩
          have HE := Lib.hid HE
          cases G1 with
          | false =>
            clear hG
            go_wp2
            have q0 : w3.cell? ⟨w.heap.size, 0, none⟩ = some (.slice none 0 0) := by go_simp
            have q1 : w3.cell? ⟨w.heap.size, 1, none⟩ = some (.slice none 0 0) := by go_simp
            rw [HE.out.1, HE.out.2]
            exact bodyPost_ret (v := .tuple #[.agg #[.slice none 0 0, .slice none 0 0], .int .i64 5]) (by simp [results, Tryd.results11, go_sem, q0, q1, Nat.ne_of_lt hlw3k0, hlw3k0]) rfl (tab_err (by repeat (first | exact Below.refl _ _ | exact Since.out (by assumption) | refine Below.alloc ?_ (by first | omega | (simp only [sz_alloc, sz_set, sz_drew, sz_drewN]; omega) | (simp only [sz_alloc, sz_set, sz_drew, sz_drewN] at *; omega)) _ | refine Below.setCell ?_ (by first | omega | (simp only [sz_alloc, sz_set, sz_drew, sz_drewN]; omega) | (simp only [sz_alloc, sz_set, sz_drew, sz_drewN] at *; omega)) _ | refine Below.drew ?_ | refine below_drewN_ ?_ _)))
          | true =>
            cases G2 with
            | true => cases hG
            | false =>
              clear hG
              go_wp2
              have q0 : w3.cell? ⟨w.heap.size, 0, none⟩ = some (.slice none 0 0) := by go_simp
              have q1 : w3.cell? ⟨w.heap.size, 1, none⟩ = some (.slice none 0 0) := by go_simp
              rw [HE.out.1, HE.out.2]
              exact bodyPost_ret (v := .tuple #[.agg #[.slice none 0 0, .slice none 0 0], .int .i64 5]) (by simp [results, Tryd.results11, go_sem, q0, q1, Nat.ne_of_lt hlw3k0, hlw3k0]) rfl (tab_err (by repeat (first | exact Below.refl _ _ | exact Since.out (by assumption) | refine Below.alloc ?_ (by first | omega | (simp only [sz_alloc, sz_set, sz_drew, sz_drewN]; omega) | (simp only [sz_alloc, sz_set, sz_drew, sz_drewN] at *; omega)) _ | refine Below.setCell ?_ (by first | omega | (simp only [sz_alloc, sz_set, sz_drew, sz_drewN]; omega) | (simp only [sz_alloc, sz_set, sz_drew, sz_drewN] at *; omega)) _ | refine Below.drew ?_ | refine below_drewN_ ?_ _)))
      · have qc : (c == []) = false := lst_ne hc
        have HCC : Hid (tabS3 [a, b, c] = none) := Lib.hid (by unfold tabS3; split; (rename_i h; simp at h; exact absurd h.2.2 hc); rfl)
        rw [HC.out, HD.out, HCC.out]
        clear hc
        go_enter Tryd.func11, Tryd.ntmps11
        go_wp2_with fail
        refine (HS.out _).mono ?_
        rintro e w1 ⟨A, m, rfl, r, -, hb1⟩
        have HBw1 : Since w w1 := ⟨below_cat (by repeat (first | exact Below.refl _ _ | exact Since.out (by assumption) | refine Below.alloc ?_ (by first | omega | (simp only [sz_alloc, sz_set, sz_drew, sz_drewN]; omega) | (simp only [sz_alloc, sz_set, sz_drew, sz_drewN] at *; omega)) _ | refine Below.setCell ?_ (by first | omega | (simp only [sz_alloc, sz_set, sz_drew, sz_drewN]; omega) | (simp only [sz_alloc, sz_set, sz_drew, sz_drewN] at *; omega)) _ | refine Below.drew ?_ | refine below_drewN_ ?_ _)) hb1 (by first | omega | (simp only [sz_alloc, sz_set, sz_drew, sz_drewN]; omega) | (simp only [sz_alloc, sz_set, sz_drew, sz_drewN] at *; omega))⟩; have hzw1 := hb1.size; (try simp only [sz_alloc, sz_set, sz_drew, sz_drewN] at hzw1); have hcw1k0 := fun o => hb1.cell (p := ⟨w.heap.size, o, none⟩) (by first | omega | (simp only [sz_alloc, sz_set, sz_drew, sz_drewN]; omega) | (simp only [sz_alloc, sz_set, sz_drew, sz_drewN] at *; omega)); have hfw1k0 := fun o => hb1.frozen (p := ⟨w.heap.size, o, none⟩) (by first | omega | (simp only [sz_alloc, sz_set, sz_drew, sz_drewN]; omega) | (simp only [sz_alloc, sz_set, sz_drew, sz_drewN] at *; omega)); have hlw1k0 : w.heap.size < w1.heap.size := (by first | omega | (simp only [sz_alloc, sz_set, sz_drew, sz_drewN]; omega) | (simp only [sz_alloc, sz_set, sz_drew, sz_drewN] at *; omega))
        rw [show ([a, b, c] : List (List UInt8)).length = 3 from rfl]
        obtain ⟨g, o, rfl, hg, cc⟩ := r.bs (bs_get (k := 2) (x := c) rfl)
        clear r
        go_wp2
        exact bodyPost_ret (v := .tuple #[.agg #[.slice none 0 0, .slice none 0 0], .int .i64 5]) (by simp [results, Tryd.results11, go_sem, hcw1k0]) rfl (tab_err (by repeat (first | exact Below.refl _ _ | exact Since.out (by assumption) | refine Below.alloc ?_ (by first | omega | (simp only [sz_alloc, sz_set, sz_drew, sz_drewN]; omega) | (simp only [sz_alloc, sz_set, sz_drew, sz_drewN] at *; omega)) _ | refine Below.setCell ?_ (by first | omega | (simp only [sz_alloc, sz_set, sz_drew, sz_drewN]; omega) | (simp only [sz_alloc, sz_set, sz_drew, sz_drewN] at *; omega)) _ | refine Below.drew ?_ | refine below_drewN_ ?_ _)))
    · have q3 : ((xs.length : Int) == 3) = false := by
        simp only [beq_eq_false_iff_ne, ne_eq]
        omega
      have q3' : ((xs.length : Int) != 3) = true := by
        simp only [bne_iff_ne, ne_eq]
        omega
      have HCC : Hid (tabS3 xs = none) := Lib.hid (by unfold tabS3; split; (exact absurd rfl h3); rfl)
      rw [HC.out, HD.out, HCC.out]
      go_enter Tryd.func11, Tryd.ntmps11
      go_wp2_with fail
      refine (HS.out _).mono ?_
      rintro e w1 ⟨A, m, rfl, r, -, hb1⟩
      have HBw1 : Since w w1 := ⟨below_cat (by repeat (first | exact Below.refl _ _ | exact Since.out (by assumption) | refine Below.alloc ?_ (by first | omega | (simp only [sz_alloc, sz_set, sz_drew, sz_drewN]; omega) | (simp only [sz_alloc, sz_set, sz_drew, sz_drewN] at *; omega)) _ | refine Below.setCell ?_ (by first | omega | (simp only [sz_alloc, sz_set, sz_drew, sz_drewN]; omega) | (simp only [sz_alloc, sz_set, sz_drew, sz_drewN] at *; omega)) _ | refine Below.drew ?_ | refine below_drewN_ ?_ _)) hb1 (by first | omega | (simp only [sz_alloc, sz_set, sz_drew, sz_drewN]; omega) | (simp only [sz_alloc, sz_set, sz_drew, sz_drewN] at *; omega))⟩; have hzw1 := hb1.size; (try simp only [sz_alloc, sz_set, sz_drew, sz_drewN] at hzw1); have hcw1k0 := fun o => hb1.cell (p := ⟨w.heap.size, o, none⟩) (by first | omega | (simp only [sz_alloc, sz_set, sz_drew, sz_drewN]; omega) | (simp only [sz_alloc, sz_set, sz_drew, sz_drewN] at *; omega)); have hfw1k0 := fun o => hb1.frozen (p := ⟨w.heap.size, o, none⟩) (by first | omega | (simp only [sz_alloc, sz_set, sz_drew, sz_drewN]; omega) | (simp only [sz_alloc, sz_set, sz_drew, sz_drewN] at *; omega)); have hlw1k0 : w.heap.size < w1.heap.size := (by first | omega | (simp only [sz_alloc, sz_set, sz_drew, sz_drewN]; omega) | (simp only [sz_alloc, sz_set, sz_drew, sz_drewN] at *; omega))
      go_wp2
      exact bodyPost_ret (v := .tuple #[.agg #[.slice none 0 0, .slice none 0 0], .int .i64 5]) (by simp [results, Tryd.results11, go_sem, hcw1k0]) rfl (tab_err (by repeat (first | exact Below.refl _ _ | exact Since.out (by assumption) | refine Below.alloc ?_ (by first | omega | (simp only [sz_alloc, sz_set, sz_drew, sz_drewN]; omega) | (simp only [sz_alloc, sz_set, sz_drew, sz_drewN] at *; omega)) _ | refine Below.setCell ?_ (by first | omega | (simp only [sz_alloc, sz_set, sz_drew, sz_drewN]; omega) | (simp only [sz_alloc, sz_set, sz_drew, sz_drewN] at *; omega)) _ | refine Below.drew ?_ | refine below_drewN_ ?_ _)))
end Go.Proofs.YtelmooaenodfaaaDoor
