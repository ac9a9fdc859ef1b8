/-
  Contract of the program's ThenTurner where it makes a machine. Conditions: those in each statement.
-/
import Derived.Test.YtepjgaakihhngaaThenI
set_option linter.unusedVariables false
set_option linter.unusedSimpArgs false
set_option maxRecDepth 100000
set_option maxHeartbeats 1000000
namespace Go.Proofs.Ytepjgaakihhngaa
open Go.RowKit

theorem Acc.low {α : Type} [Cod α] {w : World} {B B' : Nat} {e : TypeId} {A : Option Addr} {n c : Nat} {xs : List α} {bs : List Nat} (h : Acc w B e A n c xs bs) (hB : B' ≤ B) : Acc w B' e A n c xs bs := by
  obtain ⟨cs, ⟨o1, o2⟩, he⟩ := h.cells
  refine ⟨h.len, ⟨cs, ⟨o1, ?_⟩, he⟩, ⟨h.fresh.1, fun g hg => ⟨Nat.le_trans hB (h.fresh.2 g hg).1, (h.fresh.2 g hg).2⟩⟩, h.out⟩
  rcases o2 with o2 | ⟨g, cap, cur, hv, hb, r⟩
  · exact .inl o2
  · exact .inr ⟨g, cap, cur, hv, Nat.le_trans hB hb, r⟩
theorem Els.rows_one {α : Type} [Cod α] {w : World} : ∀ {xs : List (List α)} {cs : List Value} {bs : List Nat}, Els w xs cs bs → ∀ u ∈ cs, u.oneCell' = true
  | [], _, _, ⟨rfl, _⟩, u, hu => by simp at hu
  | _ :: _, _, _, ⟨c1, c2, _, _, rfl, _, ⟨A, c, hc, _⟩, h2⟩, u, hu => by
    rw [hc] at hu
    rcases List.mem_append.1 hu with h | h
    · simp at h; subst h; rfl
    · exact Els.rows_one h2 u h
theorem Acc.src {α : Type} [Cod α] {w : World} {B : Nat} {e : TypeId} {A : Option Addr} {n c : Nat} {xs : List (List α)} {bs : List Nat} (h : Acc w B e A n c xs bs) (h0 : 0 < n) :
    ∃ G cs, A = some ⟨G, 0, none⟩ ∧ Els w xs cs bs ∧ (∀ j u, cs[j]? = some u → w.cell? ((⟨G, 0, none⟩ : Addr).add j) = some u) ∧ (∀ u ∈ cs, u.oneCell' = true) := by
  obtain ⟨cs, ⟨o1, o2⟩, he⟩ := h.cells
  rcases o2 with ⟨hv, hz⟩ | ⟨G, cap, cur, hv, hB, hg, hnc, hcm, hcur, htake⟩
  · omega
  · refine ⟨G, cs, by injection hv, he, fun j u hu => ?_, he.rows_one⟩
    rw [show (⟨G, 0, none⟩ : Addr).add j = ⟨G, j, none⟩ by unfold Addr.add; split <;> simp_all]
    rw [cell_of_row w G j cur e (0, 0) hg]
    rw [← htake] at hu
    have hl := (List.getElem?_eq_some_iff.1 hu).1
    rw [List.length_take] at hl
    rw [List.getElem?_take_of_lt (by omega)] at hu
    simpa using hu
theorem grown_since {w0 w w' : World} {A : Option Addr} {C : Nat} (hs : Below C w0 w) (hgr : w.grownBy w' (A.map (·.block))) (hz : C ≤ w.heap.size) (hA : ∀ a, A = some a → C ≤ a.block) : Below C w0 w' :=
  Below.grown hs hgr hz fun g hg => by
    cases hD : A with
    | none => rw [hD] at hg; simp at hg
    | some a => rw [hD] at hg; simp at hg; have := hA a hD; omega
theorem chg_prow {H E : Int × Int} {l n : Nat} {xs : List (List (Int × Int))} (hn : xs.length = n) (h : ∀ r ∈ xs, r.length = l + 2) (f : Nat → Nat → Int × Int) (hf : ∀ t c, f t c = mvAt xs t c) (g : Int × Int → Int × Int) : xs.map (fun r => r.map g) = (List.range n).map fun t => (List.range (l + 2)).map fun c => g (f t c) := by
  refine List.ext_getElem? fun t => ?_
  by_cases ht : t < xs.length
  · obtain ⟨r, hr⟩ := get_some ht
    have hl := h r (List.mem_of_getElem? hr)
    rw [List.getElem?_map, hr, List.getElem?_map, List.getElem?_range (by omega)]
    simp only [Option.map_some]
    congr 1
    refine List.ext_getElem? fun c => ?_
    by_cases hc : c < l + 2
    · obtain ⟨m, hm⟩ := get_some (xs := r) (k := c) (by omega)
      rw [List.getElem?_map, hm, List.getElem?_map, List.getElem?_range hc]
      simp only [Option.map_some]
      rw [hf, mvAt_of hr hm]
    · rw [List.getElem?_eq_none (by simp; omega), List.getElem?_eq_none (by simp; omega)]
  · rw [List.getElem?_eq_none (by simp; omega), List.getElem?_eq_none (by simp; omega)]

theorem raised (A : Option Addr) (c : Nat) (T : Tn) (n : Nat) (w : World) (r1 : RdS w w.heap.size A T.moves) (OK : T.Ok) (hn1 : n ≤ 12) :
    Calls Try.prog 90 #[.agg #[.int .i64 T.letters, .int .i64 T.start, .slice A T.moves.length c], .int .i64 n] w fun e w' =>
      ∃ A3 c3 bs, e = .returned (.agg #[.int .i64 T.letters, .int .i64 (T.start + n), .slice A3 T.moves.length c3]) ∧ Acc w' (w.heap.size + 6) 92 A3 T.moves.length c3 (T.moves.map (raiseR n)) bs ∧ Below w.heap.size w w' ∧ w.heap.size + 6 ≤ w'.heap.size := by
  have hn := OK.n12
  have s0 := OK.s0
  have s1 := OK.s1
  have s2 : T.start ≤ 12 := by omega
  have n0 : (0 : Int) ≤ (n : Int) := by omega
  have n1 : (n : Int) ≤ 12 := by omega
  clear s1
  go_enter Try.func90, Try.ntmps90
  go_wp2_with fail
  refine (changedRaise A c T (w.heap.size + 1) n _ (r1.up (by repeat (first | exact Below.refl _ _ | refine Below.alloc ?_ (by first | omega | (simp only [sz_alloc, sz_set, sz_drew, sz_drewN]; omega) | (simp only [sz_alloc, sz_set, sz_drew, sz_drewN] at *; omega)) _ | refine Below.setCell ?_ (by first | omega | (simp only [sz_alloc, sz_set, sz_drew, sz_drewN]; omega) | (simp only [sz_alloc, sz_set, sz_drew, sz_drewN] at *; omega)) _ | refine Below.drew ?_ | refine below_drewN_ ?_ _))) OK (by go_simp) hn1 (by first | omega | (simp only [sz_alloc, sz_set, sz_drew, sz_drewN]; omega) | (simp only [sz_alloc, sz_set, sz_drew, sz_drewN] at *; omega))).mono ?_
  rintro e w1 ⟨A3, c3, bs, rfl, hacc, hb1, hz1⟩
  have HBw1 : Since w w1 := ⟨below_cat (by repeat (first | exact Below.refl _ _ | exact Since.out (by assumption) | refine Below.alloc ?_ (by first | omega | (simp only [sz_alloc, sz_set, sz_drew, sz_drewN]; omega) | (simp only [sz_alloc, sz_set, sz_drew, sz_drewN] at *; omega)) _ | refine Below.setCell ?_ (by first | omega | (simp only [sz_alloc, sz_set, sz_drew, sz_drewN]; omega) | (simp only [sz_alloc, sz_set, sz_drew, sz_drewN] at *; omega)) _ | refine Below.drew ?_ | refine below_drewN_ ?_ _)) hb1 (by first | omega | (simp only [sz_alloc, sz_set, sz_drew, sz_drewN]; omega) | (simp only [sz_alloc, sz_set, sz_drew, sz_drewN] at *; omega))⟩; have hzw1 := hb1.size; (try simp only [sz_alloc, sz_set, sz_drew, sz_drewN] at hzw1); have hcw1k0 := fun o => hb1.cell (p := ⟨w.heap.size, o, none⟩) (by first | omega | (simp only [sz_alloc, sz_set, sz_drew, sz_drewN]; omega) | (simp only [sz_alloc, sz_set, sz_drew, sz_drewN] at *; omega)); have hfw1k0 := fun o => hb1.frozen (p := ⟨w.heap.size, o, none⟩) (by first | omega | (simp only [sz_alloc, sz_set, sz_drew, sz_drewN]; omega) | (simp only [sz_alloc, sz_set, sz_drew, sz_drewN] at *; omega)); have hlw1k0 : w.heap.size < w1.heap.size := (by first | omega | (simp only [sz_alloc, sz_set, sz_drew, sz_drewN]; omega) | (simp only [sz_alloc, sz_set, sz_drew, sz_drewN] at *; omega)); have hcw1k1 := fun o => hb1.cell (p := ⟨w.heap.size + 1, o, none⟩) (by first | omega | (simp only [sz_alloc, sz_set, sz_drew, sz_drewN]; omega) | (simp only [sz_alloc, sz_set, sz_drew, sz_drewN] at *; omega)); have hfw1k1 := fun o => hb1.frozen (p := ⟨w.heap.size + 1, o, none⟩) (by first | omega | (simp only [sz_alloc, sz_set, sz_drew, sz_drewN]; omega) | (simp only [sz_alloc, sz_set, sz_drew, sz_drewN] at *; omega)); have hlw1k1 : w.heap.size + 1 < w1.heap.size := (by first | omega | (simp only [sz_alloc, sz_set, sz_drew, sz_drewN]; omega) | (simp only [sz_alloc, sz_set, sz_drew, sz_drewN] at *; omega)); have hcw1k2 := fun o => hb1.cell (p := ⟨w.heap.size + 1 + 1, o, none⟩) (by first | omega | (simp only [sz_alloc, sz_set, sz_drew, sz_drewN]; omega) | (simp only [sz_alloc, sz_set, sz_drew, sz_drewN] at *; omega)); have hfw1k2 := fun o => hb1.frozen (p := ⟨w.heap.size + 1 + 1, o, none⟩) (by first | omega | (simp only [sz_alloc, sz_set, sz_drew, sz_drewN]; omega) | (simp only [sz_alloc, sz_set, sz_drew, sz_drewN] at *; omega)); have hlw1k2 : w.heap.size + 1 + 1 < w1.heap.size := (by first | omega | (simp only [sz_alloc, sz_set, sz_drew, sz_drewN]; omega) | (simp only [sz_alloc, sz_set, sz_drew, sz_drewN] at *; omega))
  simp only [sz_alloc] at hacc hz1
  have HA := Lib.hid hacc
  have HLT : Hid ((∀ a, A3 = some a → a.block < w1.heap.size) ∧ ∀ g ∈ bs, g < w1.heap.size) := Lib.hid ⟨fun a ha => (hacc.lt a ha).2, fun g hg => (hacc.fresh.2 g hg).2⟩
  clear hacc
  go_wp2
  refine bodyPost_ret (v := .agg #[.int .i64 T.letters, .int .i64 (T.start + n), .slice A3 T.moves.length c3]) (by simp [results, Try.results90, go_sem, hcw1k2, hlw1k2, sz_set]) rfl
    ⟨A3, c3, bs, rfl, ?_, (by repeat (first | exact Below.refl _ _ | exact Since.out (by assumption) | refine Below.alloc ?_ (by first | omega | (simp only [sz_alloc, sz_set, sz_drew, sz_drewN]; omega) | (simp only [sz_alloc, sz_set, sz_drew, sz_drewN] at *; omega)) _ | refine Below.setCell ?_ (by first | omega | (simp only [sz_alloc, sz_set, sz_drew, sz_drewN]; omega) | (simp only [sz_alloc, sz_set, sz_drew, sz_drewN] at *; omega)) _ | refine Below.drew ?_ | refine below_drewN_ ?_ _)), (by first | omega | (simp only [sz_alloc, sz_set, sz_drew, sz_drewN]; omega) | (simp only [sz_alloc, sz_set, sz_drew, sz_drewN] at *; omega))⟩
  repeat (first | with_reducible refine Acc.setLow ?_ (by simp only; omega) _ | with_reducible refine Acc.alloc ?_ _ | with_reducible refine Acc.setCell ?_ (fun a ha e => by have := HLT.out.1 a ha; simp only at e; omega) (fun hm => by have := HLT.out.2 _ hm; simp only at this; omega) _)
  exact HA.out

/-- What the walk keeps of the first blocks. -/
structure ThG (w : World) (b0 b7 : Nat) (l : Nat) (ST SN : Value) (h : Int) (e : Int × Int) : Prop where
  z : b0 + 2 < b7 ∧ b7 + 2 < w.heap.size
  t0 : w.cell? ⟨b0, 0, none⟩ = some (.int .i64 l)
  t2 : w.cell? ⟨b0, 2, none⟩ = some ST
  n2 : w.cell? ⟨b7, 2, none⟩ = some SN
  e0 : w.cell? ⟨b7 + 1, 0, none⟩ = some (.int .i64 e.1)
  e1 : w.cell? ⟨b7 + 1, 1, none⟩ = some (.int .i64 e.2)
  h0 : w.cell? ⟨b7 + 2, 0, none⟩ = some (.int .i64 h)
  r0 : w.cell? ⟨b0 + 2, 0, none⟩ = some (.int .i64 0)
  r1 : w.cell? ⟨b0 + 2, 1, none⟩ = some (.int .i64 0)
  r2 : w.cell? ⟨b0 + 2, 2, none⟩ = some (.slice none 0 0)
  fr : ∀ o, w.frozen? ⟨b0 + 2, o, none⟩ = false
theorem ThG.below {w w' : World} {b0 b7 l : Nat} {ST SN : Value} {h : Int} {e : Int × Int} (H : ThG w b0 b7 l ST SN h e) {C : Nat} (hb : Below C w w') (hC : b7 + 2 < C) : ThG w' b0 b7 l ST SN h e :=
  have z := H.z
  ⟨⟨z.1, Nat.lt_of_lt_of_le z.2 hb.size⟩, (hb.cell (by show b0 < C; omega)).trans H.t0, (hb.cell (by show b0 < C; omega)).trans H.t2, (hb.cell (by show b7 < C; omega)).trans H.n2, (hb.cell (by show b7 + 1 < C; omega)).trans H.e0, (hb.cell (by show b7 + 1 < C; omega)).trans H.e1, (hb.cell (by show b7 + 2 < C; omega)).trans H.h0, (hb.cell (by show b0 + 2 < C; omega)).trans H.r0, (hb.cell (by show b0 + 2 < C; omega)).trans H.r1, (hb.cell (by show b0 + 2 < C; omega)).trans H.r2, fun o => (hb.frozen (by show b0 + 2 < C; omega)).trans (H.fr o)⟩

set_option maxHeartbeats 8000000 in
theorem thenTurner_impl_yes (A A' : Option Addr) (c c' : Nat) (T U : Tn) (w : World) (r1 : RdS w w.heap.size A T.moves) (r2 : RdS w w.heap.size A' U.moves) (n1 : T.tot ≤ 1048576) (n2 : U.tot ≤ 1048576) (hT : T.okB = true) (hU : U.okB = true) (hL : T.letters = U.letters) :
    Calls Try.prog 36 #[.agg #[.int .i64 T.letters, .int .i64 T.start, .slice A T.moves.length c], .agg #[.int .i64 U.letters, .int .i64 U.start, .slice A' U.moves.length c']] w (RetTnC (T.thenC U) (T.thenCode U) w) := by
  have OT := Tn.ok_of hT
  have OU := Tn.ok_of hU
  have hn := OT.n12
  have hn' := OU.n12
  have hnp := OT.n1
  have hnp' := OU.n1
  have l1 := OT.l1
  have l3 := OT.l3
  obtain ⟨l, hll⟩ := Int.eq_ofNat_of_zero_le (show 0 ≤ T.letters by omega)
  obtain ⟨s, hss⟩ := Int.eq_ofNat_of_zero_le OU.s0
  have hs1 := OU.s1
  have hln : T.letters.toNat = l := by omega
  obtain ⟨row, hrow⟩ := get_some (xs := U.moves) (k := s) (by omega)
  have hrl : (row.length : Int) = (l : Int) + 2 := by have := OU.row row (List.mem_of_getElem? hrow); omega
  obtain ⟨m, hm⟩ := get_some (xs := row) (k := l) (by omega)
  have hbeg : T.begin_ U = raiseM T.moves.length m := by unfold Tn.begin_; rw [hln, show U.start.toNat = s by omega, mvAt_of hrow hm]
  have hRR : (U.moves.map (raiseR T.moves.length))[s]? = some (raiseR T.moves.length row) := by rw [List.getElem?_map, hrow]; rfl
  have hRm : (raiseR T.moves.length row)[l]? = some (T.begin_ U) := by unfold raiseR; rw [List.getElem?_map, hm, hbeg]; rfl
  have hRl : (raiseR T.moves.length row).length = l + 2 := by rw [raiseR_len]; omega
  obtain ⟨E, hE⟩ : ∃ E, E = T.begin_ U := ⟨_, rfl⟩
  rw [← hE] at hRm
  have HOK := Lib.hid (And.intro hT hU)
  have HRT := Lib.hid OT.row
  have HOT := Lib.hid OT
  have HOU := Lib.hid OU
  have hlU : U.letters = l := by omega
  have s0 : (0 : Int) ≤ (s : Int) := by omega
  have s1 : (s : Int) < (U.moves.length : Int) := by omega
  have l0' : (0 : Int) ≤ (l : Int) := by omega
  have l3' : (l : Int) ≤ 3 := by omega
  have l4' : (l : Int) < (l : Int) + 2 := by omega
  have nn0 : (0 : Int) ≤ (T.moves.length : Int) := by omega
  have nn1 : (T.moves.length : Int) ≤ 12 := by omega
  have nn2 : (0 : Int) ≤ (U.moves.length : Int) := by omega
  have nn3 : (U.moves.length : Int) ≤ 12 := by omega
  have HLL := Lib.hid hll
  have HLU := Lib.hid hlU
  have HEE := Lib.hid hE
  have HRR := Lib.hid (And.intro hRR (And.intro hRm hRl))
  have V1 : ∀ W, Below w.heap.size w W → Calls Try.prog 55 #[.agg #[.int .i64 (l : Int), .int .i64 T.start, .slice A T.moves.length c]] W fun e w' => e = .returned (.bool true) ∧ Below W.heap.size W w' := fun W hW => by
    have := validTurner_impl _ T W ⟨A, c, rfl, r1.up hW⟩ n1
    rw [hll, hT] at this
    exact this
  have V2 : ∀ W, Below w.heap.size w W → Calls Try.prog 55 #[.agg #[.int .i64 (l : Int), .int .i64 (s : Int), .slice A' U.moves.length c']] W fun e w' => e = .returned (.bool true) ∧ Below W.heap.size W w' := fun W hW => by
    have := validTurner_impl _ U W ⟨A', c', rfl, r2.up hW⟩ n2
    rw [hlU, hss, hU] at this
    exact this
  have V3 : ∀ W, Below w.heap.size w W → Calls Try.prog 90 #[.agg #[.int .i64 (l : Int), .int .i64 (s : Int), .slice A' U.moves.length c'], .int .i64 (T.moves.length : Int)] W fun e w' =>
      ∃ A3 c3 bs, e = .returned (.agg #[.int .i64 (l : Int), .int .i64 ((s : Int) + (T.moves.length : Int)), .slice A3 U.moves.length c3]) ∧ Acc w' (W.heap.size + 6) 92 A3 U.moves.length c3 (U.moves.map (raiseR T.moves.length)) bs ∧ Below W.heap.size W w' ∧ W.heap.size + 6 ≤ w'.heap.size := fun W hW => by
    have := raised A' c' U T.moves.length W (r2.up hW) OU hn
    rw [hlU, hss] at this
    exact this
  have V4 : ∀ W (g : Nat) (h : Int), Below w.heap.size w W → W.cell? ⟨g, 0, none⟩ = some (.int .i64 h) → g < W.heap.size → Calls Try.prog 91 #[.agg #[.int .i64 (l : Int), .int .i64 T.start, .slice A T.moves.length c], .func (.func 92) #[] #[.pointer (some ⟨g, 0, none⟩)]] W fun e w' =>
      ∃ A3 c3 bs, e = .returned (.agg #[.int .i64 (l : Int), .int .i64 T.start, .slice A3 T.moves.length c3]) ∧ Acc w' (W.heap.size + 3) 92 A3 T.moves.length c3 (T.moves.map (fun r => r.map (chgM (h, -1)))) bs ∧ Below W.heap.size W w' ∧ W.heap.size + 3 ≤ w'.heap.size := fun W g h hW q0 hg => by
    have := changedHome A c T g h W (r1.up hW) OT q0 hg
    rw [hll] at this
    exact this
  have HV1 := Lib.hid V1
  have HV2 := Lib.hid V2
  have HV3 := Lib.hid V3
  have HV4 := Lib.hid V4
  rw [hll, hlU, hss]
  clear hrl hll hss hlU hln hs1 hbeg hrow hm V1 V2 V3 V4 hT hU hL hRR hRm hRl hE
  go_enter Try.func36, Try.ntmps36
  go_wp2_with fail
  refine (HV1.out _ (by repeat (first | exact Below.refl _ _ | exact Since.out (by assumption) | refine Below.alloc ?_ (by first | omega | (simp only [sz_alloc, sz_set, sz_drew, sz_drewN]; omega) | (simp only [sz_alloc, sz_set, sz_drew, sz_drewN] at *; omega)) _ | refine Below.setCell ?_ (by first | omega | (simp only [sz_alloc, sz_set, sz_drew, sz_drewN]; omega) | (simp only [sz_alloc, sz_set, sz_drew, sz_drewN] at *; omega)) _ | refine Below.drew ?_ | refine below_drewN_ ?_ _))).mono ?_
  rintro e w1 ⟨rfl, hb1⟩
  have HBw1 : Since w w1 := ⟨below_cat (by repeat (first | exact Below.refl _ _ | exact Since.out (by assumption) | refine Below.alloc ?_ (by first | omega | (simp only [sz_alloc, sz_set, sz_drew, sz_drewN]; omega) | (simp only [sz_alloc, sz_set, sz_drew, sz_drewN] at *; omega)) _ | refine Below.setCell ?_ (by first | omega | (simp only [sz_alloc, sz_set, sz_drew, sz_drewN]; omega) | (simp only [sz_alloc, sz_set, sz_drew, sz_drewN] at *; omega)) _ | refine Below.drew ?_ | refine below_drewN_ ?_ _)) hb1 (by first | omega | (simp only [sz_alloc, sz_set, sz_drew, sz_drewN]; omega) | (simp only [sz_alloc, sz_set, sz_drew, sz_drewN] at *; omega))⟩; have hzw1 := hb1.size; (try simp only [sz_alloc, sz_set, sz_drew, sz_drewN] at hzw1); have hcw1k0 := fun o => hb1.cell (p := ⟨w.heap.size, o, none⟩) (by first | omega | (simp only [sz_alloc, sz_set, sz_drew, sz_drewN]; omega) | (simp only [sz_alloc, sz_set, sz_drew, sz_drewN] at *; omega)); have hfw1k0 := fun o => hb1.frozen (p := ⟨w.heap.size, o, none⟩) (by first | omega | (simp only [sz_alloc, sz_set, sz_drew, sz_drewN]; omega) | (simp only [sz_alloc, sz_set, sz_drew, sz_drewN] at *; omega)); have hlw1k0 : w.heap.size < w1.heap.size := (by first | omega | (simp only [sz_alloc, sz_set, sz_drew, sz_drewN]; omega) | (simp only [sz_alloc, sz_set, sz_drew, sz_drewN] at *; omega)); have hcw1k1 := fun o => hb1.cell (p := ⟨w.heap.size + 1, o, none⟩) (by first | omega | (simp only [sz_alloc, sz_set, sz_drew, sz_drewN]; omega) | (simp only [sz_alloc, sz_set, sz_drew, sz_drewN] at *; omega)); have hfw1k1 := fun o => hb1.frozen (p := ⟨w.heap.size + 1, o, none⟩) (by first | omega | (simp only [sz_alloc, sz_set, sz_drew, sz_drewN]; omega) | (simp only [sz_alloc, sz_set, sz_drew, sz_drewN] at *; omega)); have hlw1k1 : w.heap.size + 1 < w1.heap.size := (by first | omega | (simp only [sz_alloc, sz_set, sz_drew, sz_drewN]; omega) | (simp only [sz_alloc, sz_set, sz_drew, sz_drewN] at *; omega)); have hcw1k2 := fun o => hb1.cell (p := ⟨w.heap.size + 1 + 1, o, none⟩) (by first | omega | (simp only [sz_alloc, sz_set, sz_drew, sz_drewN]; omega) | (simp only [sz_alloc, sz_set, sz_drew, sz_drewN] at *; omega)); have hfw1k2 := fun o => hb1.frozen (p := ⟨w.heap.size + 1 + 1, o, none⟩) (by first | omega | (simp only [sz_alloc, sz_set, sz_drew, sz_drewN]; omega) | (simp only [sz_alloc, sz_set, sz_drew, sz_drewN] at *; omega)); have hlw1k2 : w.heap.size + 1 + 1 < w1.heap.size := (by first | omega | (simp only [sz_alloc, sz_set, sz_drew, sz_drewN]; omega) | (simp only [sz_alloc, sz_set, sz_drew, sz_drewN] at *; omega))
  go_wp2_with fail
  refine (HV2.out _ (by repeat (first | exact Below.refl _ _ | exact Since.out (by assumption) | refine Below.alloc ?_ (by first | omega | (simp only [sz_alloc, sz_set, sz_drew, sz_drewN]; omega) | (simp only [sz_alloc, sz_set, sz_drew, sz_drewN] at *; omega)) _ | refine Below.setCell ?_ (by first | omega | (simp only [sz_alloc, sz_set, sz_drew, sz_drewN]; omega) | (simp only [sz_alloc, sz_set, sz_drew, sz_drewN] at *; omega)) _ | refine Below.drew ?_ | refine below_drewN_ ?_ _))).mono ?_
  rintro e w2 ⟨rfl, hb2⟩
  have HBw2 : Since w w2 := ⟨below_cat (by repeat (first | exact Below.refl _ _ | exact Since.out (by assumption) | refine Below.alloc ?_ (by first | omega | (simp only [sz_alloc, sz_set, sz_drew, sz_drewN]; omega) | (simp only [sz_alloc, sz_set, sz_drew, sz_drewN] at *; omega)) _ | refine Below.setCell ?_ (by first | omega | (simp only [sz_alloc, sz_set, sz_drew, sz_drewN]; omega) | (simp only [sz_alloc, sz_set, sz_drew, sz_drewN] at *; omega)) _ | refine Below.drew ?_ | refine below_drewN_ ?_ _)) hb2 (by first | omega | (simp only [sz_alloc, sz_set, sz_drew, sz_drewN]; omega) | (simp only [sz_alloc, sz_set, sz_drew, sz_drewN] at *; omega))⟩; have hzw2 := hb2.size; (try simp only [sz_alloc, sz_set, sz_drew, sz_drewN] at hzw2); have hcw2k0 := fun o => hb2.cell (p := ⟨w.heap.size, o, none⟩) (by first | omega | (simp only [sz_alloc, sz_set, sz_drew, sz_drewN]; omega) | (simp only [sz_alloc, sz_set, sz_drew, sz_drewN] at *; omega)); have hfw2k0 := fun o => hb2.frozen (p := ⟨w.heap.size, o, none⟩) (by first | omega | (simp only [sz_alloc, sz_set, sz_drew, sz_drewN]; omega) | (simp only [sz_alloc, sz_set, sz_drew, sz_drewN] at *; omega)); have hlw2k0 : w.heap.size < w2.heap.size := (by first | omega | (simp only [sz_alloc, sz_set, sz_drew, sz_drewN]; omega) | (simp only [sz_alloc, sz_set, sz_drew, sz_drewN] at *; omega)); have hcw2k1 := fun o => hb2.cell (p := ⟨w.heap.size + 1, o, none⟩) (by first | omega | (simp only [sz_alloc, sz_set, sz_drew, sz_drewN]; omega) | (simp only [sz_alloc, sz_set, sz_drew, sz_drewN] at *; omega)); have hfw2k1 := fun o => hb2.frozen (p := ⟨w.heap.size + 1, o, none⟩) (by first | omega | (simp only [sz_alloc, sz_set, sz_drew, sz_drewN]; omega) | (simp only [sz_alloc, sz_set, sz_drew, sz_drewN] at *; omega)); have hlw2k1 : w.heap.size + 1 < w2.heap.size := (by first | omega | (simp only [sz_alloc, sz_set, sz_drew, sz_drewN]; omega) | (simp only [sz_alloc, sz_set, sz_drew, sz_drewN] at *; omega)); have hcw2k2 := fun o => hb2.cell (p := ⟨w.heap.size + 1 + 1, o, none⟩) (by first | omega | (simp only [sz_alloc, sz_set, sz_drew, sz_drewN]; omega) | (simp only [sz_alloc, sz_set, sz_drew, sz_drewN] at *; omega)); have hfw2k2 := fun o => hb2.frozen (p := ⟨w.heap.size + 1 + 1, o, none⟩) (by first | omega | (simp only [sz_alloc, sz_set, sz_drew, sz_drewN]; omega) | (simp only [sz_alloc, sz_set, sz_drew, sz_drewN] at *; omega)); have hlw2k2 : w.heap.size + 1 + 1 < w2.heap.size := (by first | omega | (simp only [sz_alloc, sz_set, sz_drew, sz_drewN]; omega) | (simp only [sz_alloc, sz_set, sz_drew, sz_drewN] at *; omega))
  go_wp2_with fail
  refine (sizeMoveS A T.moves.length c _ (by omega)).mono ?_
  rintro e _ ⟨rfl, rfl⟩
  go_wp2_with fail
  refine (HV3.out _ (by repeat (first | exact Below.refl _ _ | exact Since.out (by assumption) | refine Below.alloc ?_ (by first | omega | (simp only [sz_alloc, sz_set, sz_drew, sz_drewN]; omega) | (simp only [sz_alloc, sz_set, sz_drew, sz_drewN] at *; omega)) _ | refine Below.setCell ?_ (by first | omega | (simp only [sz_alloc, sz_set, sz_drew, sz_drewN]; omega) | (simp only [sz_alloc, sz_set, sz_drew, sz_drewN] at *; omega)) _ | refine Below.drew ?_ | refine below_drewN_ ?_ _))).mono ?_
  rintro e w3 ⟨AN, cn, bn, rfl, hacc, hb3, hz3⟩
  have HBw3 : Since w w3 := ⟨below_cat (by repeat (first | exact Below.refl _ _ | exact Since.out (by assumption) | refine Below.alloc ?_ (by first | omega | (simp only [sz_alloc, sz_set, sz_drew, sz_drewN]; omega) | (simp only [sz_alloc, sz_set, sz_drew, sz_drewN] at *; omega)) _ | refine Below.setCell ?_ (by first | omega | (simp only [sz_alloc, sz_set, sz_drew, sz_drewN]; omega) | (simp only [sz_alloc, sz_set, sz_drew, sz_drewN] at *; omega)) _ | refine Below.drew ?_ | refine below_drewN_ ?_ _)) hb3 (by first | omega | (simp only [sz_alloc, sz_set, sz_drew, sz_drewN]; omega) | (simp only [sz_alloc, sz_set, sz_drew, sz_drewN] at *; omega))⟩; have hzw3 := hb3.size; (try simp only [sz_alloc, sz_set, sz_drew, sz_drewN] at hzw3); have hcw3k0 := fun o => hb3.cell (p := ⟨w.heap.size, o, none⟩) (by first | omega | (simp only [sz_alloc, sz_set, sz_drew, sz_drewN]; omega) | (simp only [sz_alloc, sz_set, sz_drew, sz_drewN] at *; omega)); have hfw3k0 := fun o => hb3.frozen (p := ⟨w.heap.size, o, none⟩) (by first | omega | (simp only [sz_alloc, sz_set, sz_drew, sz_drewN]; omega) | (simp only [sz_alloc, sz_set, sz_drew, sz_drewN] at *; omega)); have hlw3k0 : w.heap.size < w3.heap.size := (by first | omega | (simp only [sz_alloc, sz_set, sz_drew, sz_drewN]; omega) | (simp only [sz_alloc, sz_set, sz_drew, sz_drewN] at *; omega)); have hcw3k1 := fun o => hb3.cell (p := ⟨w.heap.size + 1, o, none⟩) (by first | omega | (simp only [sz_alloc, sz_set, sz_drew, sz_drewN]; omega) | (simp only [sz_alloc, sz_set, sz_drew, sz_drewN] at *; omega)); have hfw3k1 := fun o => hb3.frozen (p := ⟨w.heap.size + 1, o, none⟩) (by first | omega | (simp only [sz_alloc, sz_set, sz_drew, sz_drewN]; omega) | (simp only [sz_alloc, sz_set, sz_drew, sz_drewN] at *; omega)); have hlw3k1 : w.heap.size + 1 < w3.heap.size := (by first | omega | (simp only [sz_alloc, sz_set, sz_drew, sz_drewN]; omega) | (simp only [sz_alloc, sz_set, sz_drew, sz_drewN] at *; omega)); have hcw3k2 := fun o => hb3.cell (p := ⟨w.heap.size + 1 + 1, o, none⟩) (by first | omega | (simp only [sz_alloc, sz_set, sz_drew, sz_drewN]; omega) | (simp only [sz_alloc, sz_set, sz_drew, sz_drewN] at *; omega)); have hfw3k2 := fun o => hb3.frozen (p := ⟨w.heap.size + 1 + 1, o, none⟩) (by first | omega | (simp only [sz_alloc, sz_set, sz_drew, sz_drewN]; omega) | (simp only [sz_alloc, sz_set, sz_drew, sz_drewN] at *; omega)); have hlw3k2 : w.heap.size + 1 + 1 < w3.heap.size := (by first | omega | (simp only [sz_alloc, sz_set, sz_drew, sz_drewN]; omega) | (simp only [sz_alloc, sz_set, sz_drew, sz_drewN] at *; omega))
  obtain ⟨Gn, Rn, c1, rfl, -, hGn1, hGn2, hRn1, hRn2, cG, cm0, cm1, -, -, -, -⟩ := acc_at hacc HRR.out.1 HRR.out.2.1
  rw [HRR.out.2.2] at cG
  have HAN := Lib.hid hacc
  clear hacc
  go_wp2_with fail
  refine Held.begin (fun w' => w'.cell? ⟨w3.heap.size, 2, none⟩ = some (.slice (some ⟨Gn, 0, none⟩) U.moves.length cn) ∧ w'.cell? ⟨w.heap.size + 1, 1, none⟩ = some (.int .i64 (s : Int)) ∧ w'.cell? ⟨w.heap.size, 0, none⟩ = some (.int .i64 (l : Int)) ∧ w'.cell? ⟨Gn, s, none⟩ = some (.slice (some ⟨Rn, 0, none⟩) (l + 2) c1) ∧ w'.cell? ⟨Rn, l * 2, none⟩ = some (.int .i64 E.1) ∧ w'.cell? ⟨Rn, l * 2 + 1, none⟩ = some (.int .i64 E.2)) 11 (by kernel_rfl) (by (try dsimp only); (first | (go_keep; done) | (and_intros <;> go_simp))) (fun hHeld => ?_); (first | (refine Held.take (i := 0) (v := undef) (by (simp only [List.getElem?_toArray, List.getElem?_cons_succ, List.getElem?_cons_zero]); exact rfl) (by decide) (by kernel_rfl) (by kernel_rfl) (by kernel_rfl) (by kernel_rfl) (by exact fun _ _ _ h => h) (by exact Or.inr ⟨by rfl, rfl⟩) (by assumption) ?_) | (refine Held.take (i := 0) (v := ?_) (by (simp only [List.getElem?_toArray, List.getElem?_cons_succ, List.getElem?_cons_zero]); exact rfl) (by decide) (by kernel_rfl) (by kernel_rfl) (by kernel_rfl) (by kernel_rfl) (by exact fun _ _ _ h => h) (by refine Or.inl ⟨by rfl, ?_⟩; intro wS hSw; (try dsimp only at hSw); go_simp; (try with_reducible rfl)) (by assumption) ?_)); (try simp only [Act.put, List.setIfInBounds_toArray, List.set_cons_zero, List.set_cons_succ]); (first | (refine Held.take (i := 1) (v := undef) (by (simp only [List.getElem?_toArray, List.getElem?_cons_succ, List.getElem?_cons_zero]); exact rfl) (by decide) (by kernel_rfl) (by kernel_rfl) (by kernel_rfl) (by kernel_rfl) (by exact fun _ _ _ h => h) (by exact Or.inr ⟨by rfl, rfl⟩) (by assumption) ?_) | (refine Held.take (i := 1) (v := ?_) (by (simp only [List.getElem?_toArray, List.getElem?_cons_succ, List.getElem?_cons_zero]); exact rfl) (by decide) (by kernel_rfl) (by kernel_rfl) (by kernel_rfl) (by kernel_rfl) (by exact fun _ _ _ h => h) (by refine Or.inl ⟨by rfl, ?_⟩; intro wS hSw; (try dsimp only at hSw); go_simp; (try with_reducible rfl)) (by assumption) ?_)); (try simp only [Act.put, List.setIfInBounds_toArray, List.set_cons_zero, List.set_cons_succ]); (first | (refine Held.take (i := 2) (v := undef) (by (simp only [List.getElem?_toArray, List.getElem?_cons_succ, List.getElem?_cons_zero]); exact rfl) (by decide) (by kernel_rfl) (by kernel_rfl) (by kernel_rfl) (by kernel_rfl) (by exact fun _ _ _ h => h) (by exact Or.inr ⟨by rfl, rfl⟩) (by assumption) ?_) | (refine Held.take (i := 2) (v := ?_) (by (simp only [List.getElem?_toArray, List.getElem?_cons_succ, List.getElem?_cons_zero]); exact rfl) (by decide) (by kernel_rfl) (by kernel_rfl) (by kernel_rfl) (by kernel_rfl) (by exact fun _ _ _ h => h) (by refine Or.inl ⟨by rfl, ?_⟩; intro wS hSw; (try dsimp only at hSw); go_simp; (try with_reducible rfl)) (by assumption) ?_)); (try simp only [Act.put, List.setIfInBounds_toArray, List.set_cons_zero, List.set_cons_succ]); (first | (refine Held.take (i := 3) (v := undef) (by (simp only [List.getElem?_toArray, List.getElem?_cons_succ, List.getElem?_cons_zero]); exact rfl) (by decide) (by kernel_rfl) (by kernel_rfl) (by kernel_rfl) (by kernel_rfl) (by exact fun _ _ _ h => h) (by exact Or.inr ⟨by rfl, rfl⟩) (by assumption) ?_) | (refine Held.take (i := 3) (v := ?_) (by (simp only [List.getElem?_toArray, List.getElem?_cons_succ, List.getElem?_cons_zero]); exact rfl) (by decide) (by kernel_rfl) (by kernel_rfl) (by kernel_rfl) (by kernel_rfl) (by exact fun _ _ _ h => h) (by refine Or.inl ⟨by rfl, ?_⟩; intro wS hSw; (try dsimp only at hSw); go_simp; (try with_reducible rfl)) (by assumption) ?_)); (try simp only [Act.put, List.setIfInBounds_toArray, List.set_cons_zero, List.set_cons_succ]); (first | (refine Held.take (i := 4) (v := undef) (by (simp only [List.getElem?_toArray, List.getElem?_cons_succ, List.getElem?_cons_zero]); exact rfl) (by decide) (by kernel_rfl) (by kernel_rfl) (by kernel_rfl) (by kernel_rfl) (by exact fun _ _ _ h => h) (by exact Or.inr ⟨by rfl, rfl⟩) (by assumption) ?_) | (refine Held.take (i := 4) (v := ?_) (by (simp only [List.getElem?_toArray, List.getElem?_cons_succ, List.getElem?_cons_zero]); exact rfl) (by decide) (by kernel_rfl) (by kernel_rfl) (by kernel_rfl) (by kernel_rfl) (by exact fun _ _ _ h => h) (by refine Or.inl ⟨by rfl, ?_⟩; intro wS hSw; (try dsimp only at hSw); go_simp; (try with_reducible rfl)) (by assumption) ?_)); (try simp only [Act.put, List.setIfInBounds_toArray, List.set_cons_zero, List.set_cons_succ]); (first | (refine Held.take (i := 5) (v := undef) (by (simp only [List.getElem?_toArray, List.getElem?_cons_succ, List.getElem?_cons_zero]); exact rfl) (by decide) (by kernel_rfl) (by kernel_rfl) (by kernel_rfl) (by kernel_rfl) (by exact fun _ _ _ h => h) (by exact Or.inr ⟨by rfl, rfl⟩) (by assumption) ?_) | (refine Held.take (i := 5) (v := ?_) (by (simp only [List.getElem?_toArray, List.getElem?_cons_succ, List.getElem?_cons_zero]); exact rfl) (by decide) (by kernel_rfl) (by kernel_rfl) (by kernel_rfl) (by kernel_rfl) (by exact fun _ _ _ h => h) (by refine Or.inl ⟨by rfl, ?_⟩; intro wS hSw; (try dsimp only at hSw); go_simp; (try with_reducible rfl)) (by assumption) ?_)); (try simp only [Act.put, List.setIfInBounds_toArray, List.set_cons_zero, List.set_cons_succ]); (first | (refine Held.take (i := 6) (v := undef) (by (simp only [List.getElem?_toArray, List.getElem?_cons_succ, List.getElem?_cons_zero]); exact rfl) (by decide) (by kernel_rfl) (by kernel_rfl) (by kernel_rfl) (by kernel_rfl) (by exact fun _ _ _ h => h) (by exact Or.inr ⟨by rfl, rfl⟩) (by assumption) ?_) | (refine Held.take (i := 6) (v := ?_) (by (simp only [List.getElem?_toArray, List.getElem?_cons_succ, List.getElem?_cons_zero]); exact rfl) (by decide) (by kernel_rfl) (by kernel_rfl) (by kernel_rfl) (by kernel_rfl) (by exact fun _ _ _ h => h) (by refine Or.inl ⟨by rfl, ?_⟩; intro wS hSw; (try dsimp only at hSw); go_simp; (try with_reducible rfl)) (by assumption) ?_)); (try simp only [Act.put, List.setIfInBounds_toArray, List.set_cons_zero, List.set_cons_succ]); (first | (refine Held.take (i := 7) (v := undef) (by (simp only [List.getElem?_toArray, List.getElem?_cons_succ, List.getElem?_cons_zero]); exact rfl) (by decide) (by kernel_rfl) (by kernel_rfl) (by kernel_rfl) (by kernel_rfl) (by exact fun _ _ _ h => h) (by exact Or.inr ⟨by rfl, rfl⟩) (by assumption) ?_) | (refine Held.take (i := 7) (v := ?_) (by (simp only [List.getElem?_toArray, List.getElem?_cons_succ, List.getElem?_cons_zero]); exact rfl) (by decide) (by kernel_rfl) (by kernel_rfl) (by kernel_rfl) (by kernel_rfl) (by exact fun _ _ _ h => h) (by refine Or.inl ⟨by rfl, ?_⟩; intro wS hSw; (try dsimp only at hSw); go_simp; (try with_reducible rfl)) (by assumption) ?_)); (try simp only [Act.put, List.setIfInBounds_toArray, List.set_cons_zero, List.set_cons_succ]); (first | (refine Held.take (i := 8) (v := undef) (by (simp only [List.getElem?_toArray, List.getElem?_cons_succ, List.getElem?_cons_zero]); exact rfl) (by decide) (by kernel_rfl) (by kernel_rfl) (by kernel_rfl) (by kernel_rfl) (by exact fun _ _ _ h => h) (by exact Or.inr ⟨by rfl, rfl⟩) (by assumption) ?_) | (refine Held.take (i := 8) (v := ?_) (by (simp only [List.getElem?_toArray, List.getElem?_cons_succ, List.getElem?_cons_zero]); exact rfl) (by decide) (by kernel_rfl) (by kernel_rfl) (by kernel_rfl) (by kernel_rfl) (by exact fun _ _ _ h => h) (by refine Or.inl ⟨by rfl, ?_⟩; intro wS hSw; (try dsimp only at hSw); go_simp; (try with_reducible rfl)) (by assumption) ?_)); (try simp only [Act.put, List.setIfInBounds_toArray, List.set_cons_zero, List.set_cons_succ]); (first | (refine Held.take (i := 9) (v := undef) (by (simp only [List.getElem?_toArray, List.getElem?_cons_succ, List.getElem?_cons_zero]); exact rfl) (by decide) (by kernel_rfl) (by kernel_rfl) (by kernel_rfl) (by kernel_rfl) (by exact fun _ _ _ h => h) (by exact Or.inr ⟨by rfl, rfl⟩) (by assumption) ?_) | (refine Held.take (i := 9) (v := ?_) (by (simp only [List.getElem?_toArray, List.getElem?_cons_succ, List.getElem?_cons_zero]); exact rfl) (by decide) (by kernel_rfl) (by kernel_rfl) (by kernel_rfl) (by kernel_rfl) (by exact fun _ _ _ h => h) (by refine Or.inl ⟨by rfl, ?_⟩; intro wS hSw; (try dsimp only at hSw); go_simp; (try with_reducible rfl)) (by assumption) ?_)); (try simp only [Act.put, List.setIfInBounds_toArray, List.set_cons_zero, List.set_cons_succ]); refine Held.one (i := 10) (by (simp only [List.getElem?_toArray, List.getElem?_cons_succ, List.getElem?_cons_zero]); exact rfl) (by kernel_rfl) (fun K hK => ?_); go_simp; refine hK.out _ _ (by (try dsimp only); (first | (go_keep; done) | (and_intros <;> go_simp))) (fun hHeld => ?_); clear hK K; (try simp only [Act.put, List.setIfInBounds_toArray, List.set_cons_zero, List.set_cons_succ]); refine Held.last (i := 11) (by (simp only [List.getElem?_toArray, List.getElem?_cons_succ, List.getElem?_cons_zero]); exact rfl) (by decide) (by kernel_rfl) (fun K hK => ?_); go_simp; refine hK.out _ _ ?_; clear hK K; (try simp only [Act.put, List.setIfInBounds_toArray, List.set_cons_zero, List.set_cons_succ]); refine Held.done (by kernel_rfl) ?_ _
  go_wp2_with fail
  refine (sizeMoveS A' U.moves.length c' _ (by omega)).mono ?_
  rintro e _ ⟨rfl, rfl⟩
  have q1 : w.heap.size < w3.heap.size + 1 := by omega
  have q2 : w.heap.size < w3.heap.size + 1 + 1 := by omega
  go_wp2_with fail
  have hwx0 : ∃ x, x = (((w3.alloc (.cells #[.int .i64 (l : Int), .int .i64 ((s : Int) + (T.moves.length : Int)), .slice (some ⟨Gn, 0, none⟩) U.moves.length cn] 34)).alloc (.cells #[.int .i64 E.1, .int .i64 E.2] 94)).alloc (.cells #[.int .i64 ((T.moves.length : Int) + (U.moves.length : Int))] 2)).drew := ⟨_, rfl⟩
  obtain ⟨wx, hwx⟩ := hwx0
  have hsx : wx.heap.size = w3.heap.size + 3 := by rw [hwx]; simp only [sz_drew, sz_alloc]
  have SWX : Since w wx := ⟨by rw [hwx]; exact (by repeat (first | exact Below.refl _ _ | exact Since.out (by assumption) | refine Below.alloc ?_ (by first | omega | (simp only [sz_alloc, sz_set, sz_drew, sz_drewN]; omega) | (simp only [sz_alloc, sz_set, sz_drew, sz_drewN] at *; omega)) _ | refine Below.setCell ?_ (by first | omega | (simp only [sz_alloc, sz_set, sz_drew, sz_drewN]; omega) | (simp only [sz_alloc, sz_set, sz_drew, sz_drewN] at *; omega)) _ | refine Below.drew ?_ | refine below_drewN_ ?_ _))⟩
  have S3X : Since w3 wx := ⟨by rw [hwx]; exact (by repeat (first | exact Below.refl _ _ | refine Below.alloc ?_ (by first | omega | (simp only [sz_alloc, sz_set, sz_drew, sz_drewN]; omega) | (simp only [sz_alloc, sz_set, sz_drew, sz_drewN] at *; omega)) _ | refine Below.setCell ?_ (by first | omega | (simp only [sz_alloc, sz_set, sz_drew, sz_drewN]; omega) | (simp only [sz_alloc, sz_set, sz_drew, sz_drewN] at *; omega)) _ | refine Below.drew ?_ | refine below_drewN_ ?_ _))⟩
  have TGX : Hid (ThG wx w.heap.size w3.heap.size l (.slice A T.moves.length c) (.slice (some ⟨Gn, 0, none⟩) U.moves.length cn) ((T.moves.length : Int) + (U.moves.length : Int)) E) := Lib.hid (by
    rw [hwx]
    have z1 : w3.heap.size < w3.heap.size + 1 := by omega
    have z2 : w3.heap.size < w3.heap.size + 1 + 1 := by omega
    have z3 : w3.heap.size + 1 < w3.heap.size + 1 + 1 := by omega
    have q3 : w.heap.size + 1 + 1 < w3.heap.size + 1 := by omega
    have q4 : w.heap.size + 1 + 1 < w3.heap.size + 1 + 1 := by omega
    exact ⟨⟨by omega, (by first | omega | (simp only [sz_alloc, sz_set, sz_drew, sz_drewN]; omega) | (simp only [sz_alloc, sz_set, sz_drew, sz_drewN] at *; omega))⟩, by go_simp, by go_simp, by go_simp, by go_simp, by go_simp, by go_simp, by go_simp, by go_simp, by go_simp, fun o => by go_simp⟩)
  have HSX := Lib.hid hsx
  refine (HV4.out _ (w3.heap.size + 1 + 1) ((T.moves.length : Int) + (U.moves.length : Int)) (by repeat (first | exact Below.refl _ _ | exact Since.out (by assumption) | refine Below.alloc ?_ (by first | omega | (simp only [sz_alloc, sz_set, sz_drew, sz_drewN]; omega) | (simp only [sz_alloc, sz_set, sz_drew, sz_drewN] at *; omega)) _ | refine Below.setCell ?_ (by first | omega | (simp only [sz_alloc, sz_set, sz_drew, sz_drewN]; omega) | (simp only [sz_alloc, sz_set, sz_drew, sz_drewN] at *; omega)) _ | refine Below.drew ?_ | refine below_drewN_ ?_ _)) (by go_simp) (by first | omega | (simp only [sz_alloc, sz_set, sz_drew, sz_drewN]; omega) | (simp only [sz_alloc, sz_set, sz_drew, sz_drewN] at *; omega))).mono ?_
  rintro e w4 ⟨A4, c4, b4, rfl, hacc, hb4, hz4⟩
  have HS4 : Since wx w4 := ⟨by rw [hwx]; exact hb4⟩
  simp only [sz_alloc, sz_drew] at hacc hz4
  have h64 : w3.heap.size + 6 ≤ w4.heap.size := by omega
  obtain ⟨H, hH⟩ : ∃ H, H = T.home U := ⟨_, rfl⟩
  have hH1 : H = (((T.moves.length : Int) + (U.moves.length : Int)), -1) := by rw [hH]; simp [Tn.home]
  have HLT : Hid ((∀ a, A4 = some a → w3.heap.size + 6 ≤ a.block ∧ a.block < w4.heap.size) ∧ ∀ g ∈ b4, w3.heap.size + 6 ≤ g ∧ g < w4.heap.size) := Lib.hid ⟨fun a ha => hacc.lt a ha, fun g hg => hacc.fresh.2 g hg⟩
  have HA4 : Hid (Acc w4 (w2.heap.size + 6) 92 A4 T.moves.length c4 (prow (thenQ H E l T.moves 0) T.moves.length (l + 2)) b4) := Lib.hid (by
    have e0 : prow (thenQ H E l T.moves 0) T.moves.length (l + 2) = T.moves.map (fun r => r.map (chgM (((T.moves.length : Int) + (U.moves.length : Int)), -1))) := by
      rw [prow_congr (f' := fun t c => chgM H (mvAt T.moves t c)) (fun t c _ _ => thenQ_0 H E l T.moves t c), hH1]
      exact (chg_prow (H := H) (E := E) rfl (fun r hr => by have := HRT.out r hr; have := HLL.out; omega) (mvAt T.moves) (fun _ _ => rfl) _).symm
    rw [e0]
    exact hacc.low (by omega))
  have HAN : Hid (Acc wx (w2.heap.size + 6) 92 (some ⟨Gn, 0, none⟩) U.moves.length cn (U.moves.map (raiseR T.moves.length)) bn ∧ ∀ g ∈ bn, g < w3.heap.size) := Lib.hid ⟨HAN.out.below (C := w3.heap.size) S3X.out (Nat.le_refl _), fun g hg => (HAN.out.fresh.2 g hg).2⟩
  have HHH := Lib.hid (And.intro hH hH1)
  clear hacc hb4 hH hH1 hsx hwx cG cm0 cm1 hGn1 hRn1 hRn2 hcw1k0 hcw1k1 hcw1k2 hfw1k0 hfw1k1 hfw1k2 hcw2k0 hcw2k1 hcw2k2 hfw2k0 hfw2k1 hfw2k2 hcw3k0 hcw3k1 hcw3k2 hfw3k0 hfw3k1 hfw3k2
  have hC : w3.heap.size + 2 < wx.heap.size := by have := HSX.out; omega
  have t2 := (TGX.out.below HS4.out hC).t2
  have hwx4 := HS4.out.size
  have q5 : w.heap.size < w4.heap.size := by omega
  go_wp2_with fail
  clear t2
  go_loopw [58] (fun i wr => ∃ k : Nat, k ≤ T.moves.length ∧ i = .int .i64 k ∧ Hid (Acc wr (w2.heap.size + 6) 92 A4 T.moves.length c4 (prow (thenQ H E l T.moves k) T.moves.length (l + 2)) b4 ∧ wr.heap[w4.heap.size]? = some (.cells #[.int .i64 (l : Int), .int .i64 T.start, .slice A4 T.moves.length c4] 34 (0, 0))) ∧ Since wx wr ∧ w4.heap.size < wr.heap.size) (fun i _ => T.moves.length - (intOf i).toNat)
  case atStart => exact ⟨0, Nat.zero_le _, rfl, Lib.hid ⟨HA4.out.alloc _, new_block rfl⟩, ⟨(by repeat (first | exact Below.refl _ _ | exact Since.out (by assumption) | refine Below.alloc ?_ (by first | omega | (simp only [sz_alloc, sz_set, sz_drew, sz_drewN]; omega) | (simp only [sz_alloc, sz_set, sz_drew, sz_drewN] at *; omega)) _ | refine Below.setCell ?_ (by first | omega | (simp only [sz_alloc, sz_set, sz_drew, sz_drewN]; omega) | (simp only [sz_alloc, sz_set, sz_drew, sz_drewN] at *; omega)) _ | refine Below.drew ?_ | refine below_drewN_ ?_ _))⟩, (by first | omega | (simp only [sz_alloc, sz_set, sz_drew, sz_drewN]; omega) | (simp only [sz_alloc, sz_set, sz_drew, sz_drewN] at *; omega))⟩
  case round =>
    obtain ⟨k, hk, rfl, HD, hsd, hzd⟩ := hrel
    have TD := Lib.hid (TGX.out.below hsd.out hC)
    have hzx := hsd.out.size
    by_cases hlt : k < T.moves.length
    · obtain ⟨rowt, hrowt⟩ := get_some hlt
      have hrlt : rowt.length = l + 2 := by have := HRT.out rowt (List.mem_of_getElem? hrowt); have := HLL.out; omega
      obtain ⟨mt, hmt⟩ := get_some (xs := rowt) (k := l) (by omega)
      obtain ⟨rt, ot, P, p, rfl, hrt, ct, -, rx⟩ := r1.row hrowt
      obtain ⟨pt, qt, rfl, hpt, cq0, cq1⟩ := rx.pair hmt
      have HMV : Hid (mvAt T.moves k l = mt) := Lib.hid (mvAt_of hrowt hmt)
      rw [hrlt] at ct
      have hwx1 := SWX.out.size
      have cd := (hsd.out.cell (p := ⟨rt, ot + k, none⟩) (by show rt < wx.heap.size; omega)).trans ((SWX.out.cell (p := ⟨rt, ot + k, none⟩) hrt).trans ct)
      have cq0 := (hsd.out.cell (p := ⟨pt, qt + l * 2, none⟩) (by show pt < wx.heap.size; omega)).trans ((SWX.out.cell (p := ⟨pt, qt + l * 2, none⟩) hpt).trans cq0)
      have cq1 := (hsd.out.cell (p := ⟨pt, qt + l * 2 + 1, none⟩) (by show pt < wx.heap.size; omega)).trans ((SWX.out.cell (p := ⟨pt, qt + l * 2 + 1, none⟩) hpt).trans cq1)
      obtain ⟨x, y⟩ := mt
      simp only at cq0 cq1
      have t0 := TD.out.t0
      have i1 : (0 : Int) ≤ (k : Int) := by omega
      have i2 : (k : Int) < (T.moves.length : Int) := by omega
      clear hrowt hrlt hmt
      by_cases hx : x = -1
      · subst hx
        obtain ⟨G, R, c1, hA3, hRm, hG1, hG2, hR1, hR2, cG, cx0, cx1, fR, hGR, acc1, -⟩ := acc_at HD.out.1 (prow_get hlt) (row_get (show l < l + 2 by omega))
        simp only [List.length_map, List.length_range] at cG cx0 cx1
        have d2 : wr.cell? ⟨w4.heap.size, 2, none⟩ = some (.slice A4 T.moves.length c4) := cell_of_row wr _ 2 _ _ (0, 0) HD.out.2
        rw [hA3] at d2
        obtain ⟨hR3, hR4⟩ := HLT.out.2 R hRm
        have e0 := TD.out.e0
        have e1 := TD.out.e1
        have HA1 := Lib.hid acc1
        have f0 := fR (l * 2)
        have f1 := fR (l * 2 + 1)
        have m1 : w4.heap.size ≠ R := by omega
        have hv : Hid ((E.1, E.2) = thenQ H E l T.moves (k + 1) k l) := Lib.hid (thenQ_at (by rw [HMV.out]))
        have HSXR : wx.heap.size ≤ R := by have := HSX.out; omega
        clear acc1 hA3 hRm fR
        go_wp2_with fail
        refine Held.begin (fun w' => w'.cell? ⟨w4.heap.size, 2, none⟩ = some (.slice (some ⟨G, 0, none⟩) T.moves.length c4) ∧ w'.cell? ⟨w.heap.size, 0, none⟩ = some (.int .i64 (l : Int)) ∧ w'.cell? ⟨G, k, none⟩ = some (.slice (some ⟨R, 0, none⟩) (l + 2) c1) ∧ w'.cell? ⟨w3.heap.size + 1, 0, none⟩ = some (.int .i64 E.1) ∧ w'.cell? ⟨w3.heap.size + 1, 1, none⟩ = some (.int .i64 E.2)) 8 (by kernel_rfl) (by (try dsimp only); (first | (go_keep; done) | (and_intros <;> go_simp))) (fun hHeld => ?_); (first | (refine Held.take (i := 0) (v := undef) (by (simp only [List.getElem?_toArray, List.getElem?_cons_succ, List.getElem?_cons_zero]); exact rfl) (by decide) (by kernel_rfl) (by kernel_rfl) (by kernel_rfl) (by kernel_rfl) (by exact fun _ _ _ h => h) (by exact Or.inr ⟨by rfl, rfl⟩) (by assumption) ?_) | (refine Held.take (i := 0) (v := ?_) (by (simp only [List.getElem?_toArray, List.getElem?_cons_succ, List.getElem?_cons_zero]); exact rfl) (by decide) (by kernel_rfl) (by kernel_rfl) (by kernel_rfl) (by kernel_rfl) (by exact fun _ _ _ h => h) (by refine Or.inl ⟨by rfl, ?_⟩; intro wS hSw; (try dsimp only at hSw); go_simp; (try with_reducible rfl)) (by assumption) ?_)); (try simp only [Act.put, List.setIfInBounds_toArray, List.set_cons_zero, List.set_cons_succ]); (first | (refine Held.take (i := 1) (v := undef) (by (simp only [List.getElem?_toArray, List.getElem?_cons_succ, List.getElem?_cons_zero]); exact rfl) (by decide) (by kernel_rfl) (by kernel_rfl) (by kernel_rfl) (by kernel_rfl) (by exact fun _ _ _ h => h) (by exact Or.inr ⟨by rfl, rfl⟩) (by assumption) ?_) | (refine Held.take (i := 1) (v := ?_) (by (simp only [List.getElem?_toArray, List.getElem?_cons_succ, List.getElem?_cons_zero]); exact rfl) (by decide) (by kernel_rfl) (by kernel_rfl) (by kernel_rfl) (by kernel_rfl) (by exact fun _ _ _ h => h) (by refine Or.inl ⟨by rfl, ?_⟩; intro wS hSw; (try dsimp only at hSw); go_simp; (try with_reducible rfl)) (by assumption) ?_)); (try simp only [Act.put, List.setIfInBounds_toArray, List.set_cons_zero, List.set_cons_succ]); (first | (refine Held.take (i := 2) (v := undef) (by (simp only [List.getElem?_toArray, List.getElem?_cons_succ, List.getElem?_cons_zero]); exact rfl) (by decide) (by kernel_rfl) (by kernel_rfl) (by kernel_rfl) (by kernel_rfl) (by exact fun _ _ _ h => h) (by exact Or.inr ⟨by rfl, rfl⟩) (by assumption) ?_) | (refine Held.take (i := 2) (v := ?_) (by (simp only [List.getElem?_toArray, List.getElem?_cons_succ, List.getElem?_cons_zero]); exact rfl) (by decide) (by kernel_rfl) (by kernel_rfl) (by kernel_rfl) (by kernel_rfl) (by exact fun _ _ _ h => h) (by refine Or.inl ⟨by rfl, ?_⟩; intro wS hSw; (try dsimp only at hSw); go_simp; (try with_reducible rfl)) (by assumption) ?_)); (try simp only [Act.put, List.setIfInBounds_toArray, List.set_cons_zero, List.set_cons_succ]); (first | (refine Held.take (i := 3) (v := undef) (by (simp only [List.getElem?_toArray, List.getElem?_cons_succ, List.getElem?_cons_zero]); exact rfl) (by decide) (by kernel_rfl) (by kernel_rfl) (by kernel_rfl) (by kernel_rfl) (by exact fun _ _ _ h => h) (by exact Or.inr ⟨by rfl, rfl⟩) (by assumption) ?_) | (refine Held.take (i := 3) (v := ?_) (by (simp only [List.getElem?_toArray, List.getElem?_cons_succ, List.getElem?_cons_zero]); exact rfl) (by decide) (by kernel_rfl) (by kernel_rfl) (by kernel_rfl) (by kernel_rfl) (by exact fun _ _ _ h => h) (by refine Or.inl ⟨by rfl, ?_⟩; intro wS hSw; (try dsimp only at hSw); go_simp; (try with_reducible rfl)) (by assumption) ?_)); (try simp only [Act.put, List.setIfInBounds_toArray, List.set_cons_zero, List.set_cons_succ]); (first | (refine Held.take (i := 4) (v := undef) (by (simp only [List.getElem?_toArray, List.getElem?_cons_succ, List.getElem?_cons_zero]); exact rfl) (by decide) (by kernel_rfl) (by kernel_rfl) (by kernel_rfl) (by kernel_rfl) (by exact fun _ _ _ h => h) (by exact Or.inr ⟨by rfl, rfl⟩) (by assumption) ?_) | (refine Held.take (i := 4) (v := ?_) (by (simp only [List.getElem?_toArray, List.getElem?_cons_succ, List.getElem?_cons_zero]); exact rfl) (by decide) (by kernel_rfl) (by kernel_rfl) (by kernel_rfl) (by kernel_rfl) (by exact fun _ _ _ h => h) (by refine Or.inl ⟨by rfl, ?_⟩; intro wS hSw; (try dsimp only at hSw); go_simp; (try with_reducible rfl)) (by assumption) ?_)); (try simp only [Act.put, List.setIfInBounds_toArray, List.set_cons_zero, List.set_cons_succ]); (first | (refine Held.take (i := 5) (v := undef) (by (simp only [List.getElem?_toArray, List.getElem?_cons_succ, List.getElem?_cons_zero]); exact rfl) (by decide) (by kernel_rfl) (by kernel_rfl) (by kernel_rfl) (by kernel_rfl) (by exact fun _ _ _ h => h) (by exact Or.inr ⟨by rfl, rfl⟩) (by assumption) ?_) | (refine Held.take (i := 5) (v := ?_) (by (simp only [List.getElem?_toArray, List.getElem?_cons_succ, List.getElem?_cons_zero]); exact rfl) (by decide) (by kernel_rfl) (by kernel_rfl) (by kernel_rfl) (by kernel_rfl) (by exact fun _ _ _ h => h) (by refine Or.inl ⟨by rfl, ?_⟩; intro wS hSw; (try dsimp only at hSw); go_simp; (try with_reducible rfl)) (by assumption) ?_)); (try simp only [Act.put, List.setIfInBounds_toArray, List.set_cons_zero, List.set_cons_succ]); (first | (refine Held.take (i := 6) (v := undef) (by (simp only [List.getElem?_toArray, List.getElem?_cons_succ, List.getElem?_cons_zero]); exact rfl) (by decide) (by kernel_rfl) (by kernel_rfl) (by kernel_rfl) (by kernel_rfl) (by exact fun _ _ _ h => h) (by exact Or.inr ⟨by rfl, rfl⟩) (by assumption) ?_) | (refine Held.take (i := 6) (v := ?_) (by (simp only [List.getElem?_toArray, List.getElem?_cons_succ, List.getElem?_cons_zero]); exact rfl) (by decide) (by kernel_rfl) (by kernel_rfl) (by kernel_rfl) (by kernel_rfl) (by exact fun _ _ _ h => h) (by refine Or.inl ⟨by rfl, ?_⟩; intro wS hSw; (try dsimp only at hSw); go_simp; (try with_reducible rfl)) (by assumption) ?_)); (try simp only [Act.put, List.setIfInBounds_toArray, List.set_cons_zero, List.set_cons_succ]); (first | (refine Held.take (i := 7) (v := undef) (by (simp only [List.getElem?_toArray, List.getElem?_cons_succ, List.getElem?_cons_zero]); exact rfl) (by decide) (by kernel_rfl) (by kernel_rfl) (by kernel_rfl) (by kernel_rfl) (by exact fun _ _ _ h => h) (by exact Or.inr ⟨by rfl, rfl⟩) (by assumption) ?_) | (refine Held.take (i := 7) (v := ?_) (by (simp only [List.getElem?_toArray, List.getElem?_cons_succ, List.getElem?_cons_zero]); exact rfl) (by decide) (by kernel_rfl) (by kernel_rfl) (by kernel_rfl) (by kernel_rfl) (by exact fun _ _ _ h => h) (by refine Or.inl ⟨by rfl, ?_⟩; intro wS hSw; (try dsimp only at hSw); go_simp; (try with_reducible rfl)) (by assumption) ?_)); (try simp only [Act.put, List.setIfInBounds_toArray, List.set_cons_zero, List.set_cons_succ]); refine Held.last (i := 8) (by (simp only [List.getElem?_toArray, List.getElem?_cons_succ, List.getElem?_cons_zero]); exact rfl) (by decide) (by kernel_rfl) (fun K hK => ?_); go_simp; refine hK.out _ _ ?_; clear hK K; (try simp only [Act.put, List.setIfInBounds_toArray, List.set_cons_zero, List.set_cons_succ]); refine Held.last (i := 9) (by (simp only [List.getElem?_toArray, List.getElem?_cons_succ, List.getElem?_cons_zero]); exact rfl) (by decide) (by kernel_rfl) (fun K hK => ?_); go_simp; refine hK.out _ _ ?_; clear hK K; (try simp only [Act.put, List.setIfInBounds_toArray, List.set_cons_zero, List.set_cons_succ]); refine Held.done (by kernel_rfl) ?_ _
        go_wp2_with fail
        go_roundw
        case rel =>
          refine ⟨k + 1, by omega, by go_num, Lib.hid ⟨?_, blk_far (blk_far HD.out.2 m1 _) m1 _⟩, ⟨(by repeat (first | exact Below.refl _ _ | exact Since.out (by assumption) | refine Below.alloc ?_ (by first | omega | (simp only [sz_alloc, sz_set, sz_drew, sz_drewN]; omega) | (simp only [sz_alloc, sz_set, sz_drew, sz_drewN] at *; omega)) _ | refine Below.setCell ?_ (by first | omega | (simp only [sz_alloc, sz_set, sz_drew, sz_drewN]; omega) | (simp only [sz_alloc, sz_set, sz_drew, sz_drewN] at *; omega)) _ | refine Below.drew ?_ | refine below_drewN_ ?_ _))⟩, (by first | omega | (simp only [sz_alloc, sz_set, sz_drew, sz_drewN]; omega) | (simp only [sz_alloc, sz_set, sz_drew, sz_drewN] at *; omega))⟩
          rw [← prow_set (f := thenQ H E l T.moves k) (v := (E.1, E.2)) hv.out (fun t c _ _ h => thenQ_o h)]
          exact (HA1.out E.1 E.2).heap rfl
        case measure => (first | (simp [intOf]; done) | (simp [intOf]; omega))
      · have q0 : (x == -1) = false := beq_false_of_ne hx
        have HX := Lib.hid hx
        clear hx
        go_wp2
        go_roundw
        case rel =>
          exact ⟨k + 1, by omega, by go_num, Lib.hid ⟨by rw [prow_congr (f := thenQ H E l T.moves (k + 1)) (f' := thenQ H E l T.moves k) (fun t c _ _ => thenQ_no (by rw [HMV.out]; exact HX.out) t c)]; exact HD.out.1, HD.out.2⟩, hsd, hzd⟩
        case measure => (first | (simp [intOf]; done) | (simp [intOf]; omega))
    · obtain rfl : k = T.moves.length := by omega
      obtain ⟨P1, hP1⟩ : ∃ P, P = prow (fun t c => thenCell H E l c (mvAt T.moves t c)) T.moves.length (l + 2) := ⟨_, rfl⟩
      have HA1 : Hid (Acc wr (w2.heap.size + 6) 92 A4 T.moves.length c4 P1 b4) := Lib.hid (by rw [hP1, ← prow_congr (f := thenQ H E l T.moves T.moves.length) (fun t c ht _ => thenQ_end ht)]; exact HD.out.1)
      have QO := Lib.hid HD.out.2
      have HP1 := Lib.hid hP1
      have HANr := HAN.out.1.below (C := wx.heap.size) hsd.out (Nat.le_refl _)
      obtain ⟨G0, csN, hG0, heN, hnN, h1N⟩ := HANr.src (by omega)
      obtain rfl : Gn = G0 := by simpa using hG0
      have d2 : wr.cell? ⟨w4.heap.size, 2, none⟩ = some (.slice A4 T.moves.length c4) := cell_of_row wr _ 2 _ _ (0, 0) QO.out
      have tn := TD.out.n2
      have t0 := TD.out.t0
      have HN := Lib.hid (And.intro heN (And.intro hnN (And.intro h1N HANr.fresh)))
      have b7 : w3.heap.size + 2 < wr.heap.size := by omega
      have b0 : w.heap.size < wr.heap.size := by omega
      have th := TD.out.h0
      have hsx3 : w3.heap.size + 3 ≤ wx.heap.size := by have := HSX.out; omega
      have hle4 : wx.heap.size ≤ w3.heap.size + 3 := by have := HSX.out; omega
      have hz23 : w2.heap.size + 6 ≤ w3.heap.size := by omega
      clear hP1 HD heN hnN h1N hG0 HANr
      go_wp2_with (at_builtin
                   refine wpList_catR (α := List (Int × Int)) _ rfl (.tmp 81) (.tmp 83) 32 rfl (w2.heap.size + 6) 92 (.slice none 0 0) 24 Try.underlying32 infoMoveSS rfl A4 T.moves.length c4 _ b4 rfl HA1.out ⟨Gn, 0, none⟩ U.moves.length cn rfl (U.moves.map (raiseR T.moves.length)) (by simp) csN bn HN.out.1 HN.out.2.2.2 (fun g hg => ⟨fun hm => by (have h1 := HAN.out.2 g hg; have h2 := (HLT.out.2 g hm).1; omega), fun a ha e => by (have h1 := HAN.out.2 g hg; have h2 := (HLT.out.1 a ha).1; omega)⟩) HN.out.2.1 HN.out.2.2.1 (by omega) (by omega) (by omega) (by first | omega | (simp only [sz_alloc, sz_set, sz_drew, sz_drewN]; omega) | (simp only [sz_alloc, sz_set, sz_drew, sz_drewN] at *; omega)) ?_
                   intro D d w9 hacc hgr hnew
                   have hz9 := hgr.size
                   have b09 : w.heap.size < w9.heap.size := (by omega)
                   have b49 : w.heap.size ≠ w4.heap.size := (by omega)
                   have hB1 : Hid (w9.heap[w4.heap.size]? = some (.cells #[.int .i64 (l : Int), .int .i64 T.start, .slice A4 T.moves.length c4] 34 (0, 0))) := Lib.hid ((grown_block hgr hzd (fun a ha => by have := (HLT.out.1 a ha).2; omega)).trans QO.out)
                   have f3 : w9.frozen? ⟨w4.heap.size, 2, none⟩ = false := blk_free hB1.out
                   have k9 : w9.cell? ⟨w4.heap.size, 2, none⟩ = some (.slice A4 T.moves.length c4) := cell_of_row w9 _ 2 _ _ (0, 0) hB1.out
                   have HS9 : Since wx w9 := ⟨grown_since hsd.out hgr hzx (fun a ha => by have := (HLT.out.1 a ha).1; omega)⟩
                   have HNW : Hid ((∀ a, D = some a → w3.heap.size + 6 ≤ a.block ∧ a.block ≠ w4.heap.size) ∧ ∀ g ∈ b4 ++ bn, g ≠ w4.heap.size) := Lib.hid ⟨fun a ha => by (rcases hnew a ha with h1 | h1; · have := HLT.out.1 a h1; omega); · omega, fun g hg => by (rcases List.mem_append.1 hg with h1 | h1; · have := HLT.out.2 g h1; omega); · (have := HAN.out.2 g h1; omega)⟩
                   have T9 := TGX.out.below HS9.out hC
                   have t09 := T9.t0
                   have th9 := T9.h0
                   have HA9 := Lib.hid hacc
                   clear hacc hgr hnew T9)
      have HAY : Hid (Acc (w9.setCell ⟨w4.heap.size, 2, none⟩ (.slice D (T.moves.length + U.moves.length) d)) (w2.heap.size + 6) 92 D (T.moves.length + U.moves.length) d (P1 ++ U.moves.map (raiseR T.moves.length)) (b4 ++ bn)) := Lib.hid (HA9.out.setCell (fun a ha => (HNW.out.1 a ha).2) (fun hm => HNW.out.2 _ hm rfl) _)
      have QY : Hid ((w9.setCell ⟨w4.heap.size, 2, none⟩ (.slice D (T.moves.length + U.moves.length) d)).heap[w4.heap.size]? = some (.cells #[.int .i64 (l : Int), .int .i64 T.start, .slice D (T.moves.length + U.moves.length) d] 34 (0, 0))) := Lib.hid (blk_set (i := 2) hB1.out _)
      have HSY : Since wx (w9.setCell ⟨w4.heap.size, 2, none⟩ (.slice D (T.moves.length + U.moves.length) d)) := ⟨HS9.out.setCell (by simp only; omega) _⟩
      have hNI : Hid (H.1 = ((T.moves.length : Int) + (U.moves.length : Int)) ∧ H.2 = -1) := Lib.hid (by rw [HHH.out.2]; exact ⟨rfl, rfl⟩)
      have CR := repMoves w9.heap.size 0 H (l + 2) ((w9.setCell ⟨w4.heap.size, 2, none⟩ (.slice D (T.moves.length + U.moves.length) d)).alloc (.cells #[.int .i64 ((T.moves.length : Int) + (U.moves.length : Int)), .int .i64 (-1)] 94)) (by rw [new_cells (l := [.int .i64 ((T.moves.length : Int) + (U.moves.length : Int)), .int .i64 (-1)]) (by simp [sz_set]) 0 _ rfl, hNI.out.1]) (by rw [new_cells (l := [.int .i64 ((T.moves.length : Int) + (U.moves.length : Int)), .int .i64 (-1)]) (by simp [sz_set]) 1 _ rfl, hNI.out.2]) (by first | omega | (simp only [sz_alloc, sz_set, sz_drew, sz_drewN]; omega) | (simp only [sz_alloc, sz_set, sz_drew, sz_drewN] at *; omega)) (by have := HLL.out; omega)
      refine CR.mono ?_
      rintro e w5 ⟨G, rfl, hP, hG, hb5⟩
      have HP := Lib.hid hP
      have hs5 : Since wx w5 := ⟨below_cat HSY.out (below_cat (by repeat (first | exact Below.refl _ _ | refine Below.alloc ?_ (by first | omega | (simp only [sz_alloc, sz_set, sz_drew, sz_drewN]; omega) | (simp only [sz_alloc, sz_set, sz_drew, sz_drewN] at *; omega)) _ | refine Below.setCell ?_ (by first | omega | (simp only [sz_alloc, sz_set, sz_drew, sz_drewN]; omega) | (simp only [sz_alloc, sz_set, sz_drew, sz_drewN] at *; omega)) _ | refine Below.drew ?_ | refine below_drewN_ ?_ _)) hb5 (by first | omega | (simp only [sz_alloc, sz_set, sz_drew, sz_drewN]; omega) | (simp only [sz_alloc, sz_set, sz_drew, sz_drewN] at *; omega))) (by first | omega | (simp only [sz_alloc, sz_set, sz_drew, sz_drewN]; omega) | (simp only [sz_alloc, sz_set, sz_drew, sz_drewN] at *; omega))⟩
      simp only [sz_alloc, sz_set] at hG
      have hz5 := hb5.size
      simp only [sz_alloc, sz_set] at hz5
      have HB95 : Hid (Below (w9.setCell ⟨w4.heap.size, 2, none⟩ (.slice D (T.moves.length + U.moves.length) d)).heap.size (w9.setCell ⟨w4.heap.size, 2, none⟩ (.slice D (T.moves.length + U.moves.length) d)) w5) := Lib.hid (below_cat (by repeat (first | exact Below.refl _ _ | refine Below.alloc ?_ (by first | omega | (simp only [sz_alloc, sz_set, sz_drew, sz_drewN]; omega) | (simp only [sz_alloc, sz_set, sz_drew, sz_drewN] at *; omega)) _ | refine Below.setCell ?_ (by first | omega | (simp only [sz_alloc, sz_set, sz_drew, sz_drewN]; omega) | (simp only [sz_alloc, sz_set, sz_drew, sz_drewN] at *; omega)) _ | refine Below.drew ?_ | refine below_drewN_ ?_ _)) hb5 (by first | omega | (simp only [sz_alloc, sz_set, sz_drew, sz_drewN]; omega) | (simp only [sz_alloc, sz_set, sz_drew, sz_drewN] at *; omega)))
      have Q5 := Lib.hid ((HB95.out.block w4.heap.size (by simp only [sz_set]; omega)).trans QY.out)
      have HA5 := Lib.hid (HAY.out.below (C := (w9.setCell ⟨w4.heap.size, 2, none⟩ (.slice D (T.moves.length + U.moves.length) d)).heap.size) HB95.out (Nat.le_refl _))
      clear hP hb5 CR
      have T5 := TGX.out.below hs5.out hC
      have t05 := T5.t0
      have e05 := T5.e0
      have e15 := T5.e1
      clear T5
      obtain ⟨cA0, cA1⟩ := HP.out.cell (k := l) (x := H) (by simp)
      have fA0 : w5.frozen? ⟨G, l * 2, none⟩ = false := HP.out.free
      have fA1 : w5.frozen? ⟨G, l * 2 + 1, none⟩ = false := HP.out.free
      have k5 : w5.cell? ⟨w4.heap.size, 2, none⟩ = some (.slice D (T.moves.length + U.moves.length) d) := cell_of_row w5 _ 2 _ _ (0, 0) Q5.out
      have hGne : G ≠ w4.heap.size := by omega
      have hGne' : w4.heap.size ≠ G := by omega
      have hP2 : Hid (Pairs ((w5.setCell ⟨G, l * 2, none⟩ (.int .i64 E.1)).setCell ⟨G, l * 2 + 1, none⟩ (.int .i64 E.2)) G 94 (lastR H E l)) := Lib.hid (by
        rw [← lastR_set]
        exact HP.out.set (by simp) _ _)
      obtain ⟨W, hW⟩ : ∃ W, W = ((w5.setCell ⟨G, l * 2, none⟩ (.int .i64 E.1)).setCell ⟨G, l * 2 + 1, none⟩ (.int .i64 E.2)) := ⟨_, rfl⟩
      have hWs : W.heap.size = w5.heap.size := by rw [hW]; simp only [sz_set]
      rw [← hW] at hP2
      have hGW : G < w5.heap.size := HP.out.lt
      have SW : Since wx W := ⟨by rw [hW]; exact (hs5.out.setCell (by simp only; omega) _).setCell (by simp only; omega) _⟩
      have QW := Lib.hid (show W.heap[w4.heap.size]? = some (.cells #[.int .i64 (l : Int), .int .i64 T.start, .slice D (T.moves.length + U.moves.length) d] 34 (0, 0)) by rw [hW]; exact blk_far (blk_far Q5.out hGne' _) hGne' _)
      have kW : W.cell? ⟨w4.heap.size, 2, none⟩ = some (.slice D (T.moves.length + U.moves.length) d) := cell_of_row W _ 2 _ _ (0, 0) QW.out
      have HAW : Hid (Acc W (w2.heap.size + 6) 92 D (T.moves.length + U.moves.length) d (P1 ++ U.moves.map (raiseR T.moves.length)) (b4 ++ bn) ∧ (∀ a, D = some a → a.block < w9.heap.size) ∧ ∀ g ∈ b4 ++ bn, g < w9.heap.size) := Lib.hid (by
        have h1 : ∀ a, D = some a → a.block < w9.heap.size := fun a ha => (HA9.out.lt a ha).2
        have h2 : ∀ g ∈ b4 ++ bn, g < w9.heap.size := fun g hg => (HA9.out.fresh.2 g hg).2
        refine ⟨?_, h1, h2⟩
        rw [hW]
        exact (HA5.out.setCell (fun a ha e => by have := h1 a ha; simp only at e; omega) (fun hm => by have := h2 _ hm; simp only at this; omega) _).setCell (fun a ha e => by have := h1 a ha; simp only at e; omega) (fun hm => by have := h2 _ hm; simp only at this; omega) _)
      have hzW : w4.heap.size < W.heap.size := by omega
      have HX : Hid (Acc (W.alloc (.cells #[.slice (some ⟨G, 0, none⟩) (l + 2) (l + 2)] 92)) (w2.heap.size + 6) 92 D (T.moves.length + U.moves.length) d (P1 ++ U.moves.map (raiseR T.moves.length)) (b4 ++ bn)) := Lib.hid (HAW.out.1.alloc _)
      have hy : Hid (Cod.own (W.alloc (.cells #[.slice (some ⟨G, 0, none⟩) (l + 2) (l + 2)] 92)) (lastR H E l) [.slice (some ⟨G, 0, none⟩) (l + 2) (l + 2)] [G]) := Lib.hid ⟨_, l + 2, by rw [lastR_len], by rw [lastR_len]; omega, hP2.out.own.keep (fun g hg => by simp at hg; subst hg; exact Below.heap_alloc W _ g hP2.out.lt)⟩
      clear HA5 HAY QY hB1 HA9
      go_wp2_with (first
        | (rw [← hW])
        | (at_builtin
           refine wpList_push (α := List (Int × Int)) _ rfl (.tmp 99) (.tmp 101) 32 rfl (w2.heap.size + 6) 92 (.slice none 0 0) 24 Try.underlying32 infoMoveSS rfl D (T.moves.length + U.moves.length) d _ (b4 ++ bn) rfl HX.out w5.heap.size 1 rfl (lastR H E l) [.slice (some ⟨G, 0, none⟩) (l + 2) (l + 2)] [G] hy.out (new_cells hWs.symm) (fun u hu => by (simp at hu; subst hu; rfl)) ⟨by simp, fun g hg => by (simp at hg; subst hg; exact ⟨by omega, (by first | omega | (simp only [sz_alloc, sz_set, sz_drew, sz_drewN]; omega) | (simp only [sz_alloc, sz_set, sz_drew, sz_drewN] at *; omega))⟩)⟩ (fun g hg => by (simp at hg; subst hg; exact ⟨fun hm => by (have := HAW.out.2.2 _ hm; omega), fun a ha e0 => by (have := HAW.out.2.1 a ha; omega)⟩)) (by omega) (by omega) (by first | omega | (simp only [sz_alloc, sz_set, sz_drew, sz_drewN]; omega) | (simp only [sz_alloc, sz_set, sz_drew, sz_drewN] at *; omega)) ?_
           intro D3 d3 w8 hacc hgr hnew
           have hz8 := hgr.size
           simp only [sz_alloc] at hz8
           have hB8 : Hid (w8.heap[w4.heap.size]? = some (.cells #[.int .i64 (l : Int), .int .i64 T.start, .slice D (T.moves.length + U.moves.length) d] 34 (0, 0))) := Lib.hid ((grown_block hgr (by first | omega | (simp only [sz_alloc, sz_set, sz_drew, sz_drewN]; omega) | (simp only [sz_alloc, sz_set, sz_drew, sz_drewN] at *; omega)) (fun a ha => (HNW.out.1 a ha).2)).trans (alloc_block QW.out hzW))
           have f8 : w8.frozen? ⟨w4.heap.size, 2, none⟩ = false := blk_free hB8.out
           have k8 : w8.cell? ⟨w4.heap.size, 2, none⟩ = some (.slice D (T.moves.length + U.moves.length) d) := cell_of_row w8 _ 2 _ _ (0, 0) hB8.out
           have k80 : w8.cell? ⟨w4.heap.size, 0, none⟩ = some (.int .i64 (l : Int)) := cell_of_row w8 _ 0 _ _ (0, 0) hB8.out
           have k81 : w8.cell? ⟨w4.heap.size, 1, none⟩ = some (.int .i64 T.start) := cell_of_row w8 _ 1 _ _ (0, 0) hB8.out
           have HS8 : Since wx w8 := ⟨grown_since (below_cat SW.out (by repeat (first | exact Below.refl _ _ | refine Below.alloc ?_ (by first | omega | (simp only [sz_alloc, sz_set, sz_drew, sz_drewN]; omega) | (simp only [sz_alloc, sz_set, sz_drew, sz_drewN] at *; omega)) _ | refine Below.setCell ?_ (by first | omega | (simp only [sz_alloc, sz_set, sz_drew, sz_drewN]; omega) | (simp only [sz_alloc, sz_set, sz_drew, sz_drewN] at *; omega)) _ | refine Below.drew ?_ | refine below_drewN_ ?_ _)) SW.out.size) hgr (by first | omega | (simp only [sz_alloc, sz_set, sz_drew, sz_drewN]; omega) | (simp only [sz_alloc, sz_set, sz_drew, sz_drewN] at *; omega)) (fun a ha => by have := (HNW.out.1 a ha).1; omega)⟩
           have HNZ : Hid ((∀ a, D3 = some a → a.block ≠ w4.heap.size) ∧ w4.heap.size ∉ (b4 ++ bn) ++ [G]) := Lib.hid ⟨fun a ha => by (rcases hnew a ha with h1 | h1; · exact (HNW.out.1 a h1).2); · (simp only [sz_alloc] at h1; omega), fun hm => by (rcases List.mem_append.1 hm with h1 | h1; · exact HNW.out.2 _ h1 rfl); · (simp at h1; omega)⟩
           have HA8 := Lib.hid hacc
           clear hacc hgr hnew))
      have HM : Hid ((T.thenT U).moves = P1 ++ U.moves.map (raiseR T.moves.length) ++ [lastR H E l]) := Lib.hid (by
        unfold Tn.thenT
        simp only
        rw [← HHH.out.1, ← HEE.out, show T.letters.toNat = l by have := HLL.out; omega, HP1.out])
      have HZ : Hid (Acc (w8.setCell ⟨w4.heap.size, 2, none⟩ (.slice D3 (T.moves.length + U.moves.length + 1) d3)) (w2.heap.size + 6) 92 D3 (T.moves.length + U.moves.length + 1) d3 (T.thenT U).moves ((b4 ++ bn) ++ [G])) := Lib.hid (by
        rw [HM.out]
        exact HA8.out.setCell (fun a ha => HNZ.out.1 a ha) HNZ.out.2 _)
      have HSZ : Since wx (w8.setCell ⟨w4.heap.size, 2, none⟩ (.slice D3 (T.moves.length + U.moves.length + 1) d3)) := ⟨HS8.out.setCell (by simp only; omega) _⟩
      have RM := HZ.out.rd
      obtain ⟨bm, om, fm, _⟩ := HZ.out.own
      have HOM := Lib.hid (And.intro om fm)
      have CT : ∀ W, RdS W W.heap.size D3 (T.thenT U).moves → Calls Try.prog 84 #[.agg #[.int .i64 (l : Int), .int .i64 T.start, .slice D3 (T.moves.length + U.moves.length + 1) d3]] W (fun e w' => e = .returned (.tuple #[if (T.thenT U).okB = true then .agg #[.int .i64 (l : Int), .int .i64 T.start, .slice D3 (T.moves.length + U.moves.length + 1) d3] else .agg #[.int .i64 0, .int .i64 0, .slice none 0 0], .int .i64 (if (T.thenT U).okB = true then 0 else 3)]) ∧ Below W.heap.size W w') := fun W r => by
        have hTt := thenT_tot HOT.out HOU.out
        have hLt : (T.thenT U).letters = (l : Int) := HLL.out
        by_cases hok : (T.thenT U).okB = true
        · have := turnerOr_yes D3 d3 (T.thenT U) W r hTt hok
          rw [thenT_len, hLt, show (T.thenT U).start = T.start from rfl] at this
          simp only [hok, if_true]
          exact this
        · have hok := Bool.not_eq_true _ |>.mp hok
          have := turnerOr_no D3 d3 (T.thenT U) W r hTt hok
          rw [thenT_len, hLt, show (T.thenT U).start = T.start from rfl] at this
          simp only [hok, Bool.false_eq_true, if_false]
          exact this
      have hTL : Hid (T.letters = U.letters) := Lib.hid (by have := HLL.out; have := HLU.out; omega)
      clear om fm HM HX HA8 HNZ hB8 hW hy HAW QW
      by_cases hok : (T.thenT U).okB = true
      · have hCC : Hid (T.thenC U = T.thenT U ∧ T.thenCode U = 0) := Lib.hid (by
          unfold Tn.thenC Tn.thenCode orNil
          simp [HOK.out.1, HOK.out.2, hTL.out, hok])
        simp only [hok, if_true] at CT
        have HCT := Lib.hid CT
        clear CT hok
        go_wp2_with fail
        refine (HCT.out _ RM).mono ?_
        rintro e w10 ⟨rfl, hb10⟩
        have S10 : Since wx w10 := ⟨below_cat HSZ.out hb10 (by first | omega | (simp only [sz_alloc, sz_set, sz_drew, sz_drewN]; omega) | (simp only [sz_alloc, sz_set, sz_drew, sz_drewN] at *; omega))⟩
        have SW10 : Since w w10 := ⟨below_cat SWX.out S10.out SWX.out.size⟩
        have h10 := hb10.size
        (try simp only [sz_set] at h10)
        have TX := TGX.out.below S10.out hC
        have v0 := TX.r0
        have v1 := TX.r1
        have v2 := TX.r2
        have x0 := TX.fr 0
        have x1 := TX.fr 1
        have x2 := TX.fr 2
        clear TX
        go_wp2
        refine bodyPost_ret (v := .tuple #[.agg #[.int .i64 (l : Int), .int .i64 T.start, .slice D3 (T.moves.length + U.moves.length + 1) d3], .int .i64 0]) (by simp [results, Try.results36, go_sem, v0, v1, v2]) rfl ?_
        rw [hCC.out.1, hCC.out.2]
        refine ⟨.agg #[.int .i64 (T.thenT U).letters, .int .i64 (T.thenT U).start, .slice D3 (T.thenT U).moves.length d3], bm, ?_, ⟨D3, d3, bm, rfl, (HOM.out.1.below hb10 (fun g hg => (HOM.out.2.2 g hg).2)).only (bs' := [w.heap.size + 2]) (by repeat (first | with_reducible exact OnlyB.refl _ _ | with_reducible refine OnlyB.setCell ?_ (by simp) _ | with_reducible refine OnlyB.alloc ?_ _ | with_reducible refine OnlyB.drew ?_ | refine OnlyB.trans ?_ (OnlyB.of_below (by assumption) _))) (fun g hg => by have := HOM.out.2.2 g hg; simp only [sz_set] at this; simp; omega), rfl⟩, ⟨HOM.out.2.1, fun g hg => by have := HOM.out.2.2 g hg; simp only [sz_set] at *; omega⟩, (by repeat (first | exact Below.refl _ _ | exact Since.out (by assumption) | refine Below.alloc ?_ (by first | omega | (simp only [sz_alloc, sz_set, sz_drew, sz_drewN]; omega) | (simp only [sz_alloc, sz_set, sz_drew, sz_drewN] at *; omega)) _ | refine Below.setCell ?_ (by first | omega | (simp only [sz_alloc, sz_set, sz_drew, sz_drewN]; omega) | (simp only [sz_alloc, sz_set, sz_drew, sz_drewN] at *; omega)) _ | refine Below.drew ?_ | refine below_drewN_ ?_ _))⟩
        rw [thenT_len, show (T.thenT U).letters = (l : Int) from HLL.out]
        rfl
      · have hok := Bool.not_eq_true _ |>.mp hok
        have hCC : Hid (T.thenC U = nilTn ∧ T.thenCode U = 3) := Lib.hid (by
          unfold Tn.thenC Tn.thenCode orNil
          simp [HOK.out.1, HOK.out.2, hTL.out, hok])
        simp only [hok, Bool.false_eq_true, if_false] at CT
        have HCT := Lib.hid CT
        clear CT hok
        go_wp2_with fail
        refine (HCT.out _ RM).mono ?_
        rintro e w10 ⟨rfl, hb10⟩
        have S10 : Since wx w10 := ⟨below_cat HSZ.out hb10 (by first | omega | (simp only [sz_alloc, sz_set, sz_drew, sz_drewN]; omega) | (simp only [sz_alloc, sz_set, sz_drew, sz_drewN] at *; omega))⟩
        have SW10 : Since w w10 := ⟨below_cat SWX.out S10.out SWX.out.size⟩
        have h10 := hb10.size
        (try simp only [sz_set] at h10)
        have TX := TGX.out.below S10.out hC
        have v0 := TX.r0
        have v1 := TX.r1
        have v2 := TX.r2
        have x0 := TX.fr 0
        have x1 := TX.fr 1
        have x2 := TX.fr 2
        clear TX
        go_wp2
        refine bodyPost_ret (v := .tuple #[.agg #[.int .i64 0, .int .i64 0, .slice none 0 0], .int .i64 3]) (by simp [results, Try.results36, go_sem, v0, v1, v2]) rfl ?_
        rw [hCC.out.1, hCC.out.2]
        exact ⟨_, [], rfl, ⟨none, 0, [], rfl, .inl ⟨rfl, rfl⟩, rfl⟩, ⟨List.nodup_nil, fun g hg => by simp at hg⟩, (by repeat (first | exact Below.refl _ _ | exact Since.out (by assumption) | refine Below.alloc ?_ (by first | omega | (simp only [sz_alloc, sz_set, sz_drew, sz_drewN]; omega) | (simp only [sz_alloc, sz_set, sz_drew, sz_drewN] at *; omega)) _ | refine Below.setCell ?_ (by first | omega | (simp only [sz_alloc, sz_set, sz_drew, sz_drewN]; omega) | (simp only [sz_alloc, sz_set, sz_drew, sz_drewN] at *; omega)) _ | refine Below.drew ?_ | refine below_drewN_ ?_ _))⟩
end Go.Proofs.Ytepjgaakihhngaa
