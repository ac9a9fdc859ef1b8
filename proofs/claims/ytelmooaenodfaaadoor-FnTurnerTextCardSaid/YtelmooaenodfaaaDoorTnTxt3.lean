/-
  Contracts of TurnerText, by the program; both with the way that fails. Conditions: those in each statement.
-/
import Derived.Test.YtelmooaenodfaaaDoorTnTxt2
set_option linter.unusedVariables false
set_option linter.unusedSimpArgs false
set_option maxRecDepth 100000
set_option maxHeartbeats 1000000
namespace Go.Proofs.YtelmooaenodfaaaDoor
open Go.RowKit

theorem BldAt.below {p : Value} {B b : Nat} {bs : List Value} {w w' : World} (h : Lib.BuilderAtF 116 5 B b p bs w) (hb : Below w.heap.size w w') : Lib.BuilderAtF 116 5 B b p bs w' := by
  have hlt := h.lt
  obtain ⟨hB, v, hv, hown, hne⟩ := h
  refine ⟨hB, v, (hb.block b hlt).trans hv, hown.kept (row := none) ⟨hb.os, hb.tape, hb.output, hb.size, fun k hk _ => hb.block k hk⟩ ?_, hne⟩
  cases h : v.ownBlock <;> simp
theorem Bld.below {b : Nat} {l : List UInt8} {w w' : World} (h : Bld w b l) (hb : Below w.heap.size w w') : Bld w' b l := h.elim (fun x => .inl (BldAt.below x hb)) (fun x => .inr (BldAt.below x hb))
theorem Bld.lt {b : Nat} {l : List UInt8} {w : World} (h : Bld w b l) : b < w.heap.size := h.elim (fun x => x.lt) (fun x => x.lt)
theorem bld_fresh (w : World) : Bld (w.alloc (.cells #[.pointer none, .slice none 0 0] 116)) w.heap.size [] := Lib.IsBuilderF.of (Lib.fresh_isBuilder 116 5 w)
theorem rd_new (W : World) (xs : List Int) (t : TypeId) : RdS (W.alloc (.cells (xs.map (Value.int .i64)).toArray t)) (W.alloc (.cells (xs.map (Value.int .i64)).toArray t)).heap.size (some ⟨W.heap.size, 0, none⟩) xs := fun k x hx =>
  ⟨W.heap.size, 0, [.int .i64 x], rfl, by simp, rfl, fun j u hu => by
    obtain rfl : j = 0 := by
      have := (List.getElem?_eq_some_iff.1 hu).1
      simpa using this
    simp only [List.getElem?_cons_zero, Option.some.injEq] at hu
    subst hu
    have h1 : 0 + (k * Cod.size Int + 0) = k := by simp [Cod.size]
    rw [h1]
    exact new_cells rfl k _ (by rw [List.getElem?_map, hx]; rfl)⟩

set_option maxHeartbeats 8000000 in
theorem turnerText_impl_yes (A : Option Addr) (c : Nat) (T : Tn) (w : World) (r1 : RdS w w.heap.size A T.moves) (hn : T.tot ≤ 1048576) (hT : T.okB = true) :
    Calls Tryd.prog 39 #[.agg #[.int .i64 T.letters, .int .i64 T.start, .slice A T.moves.length c]] w fun e w' => e = .returned (.string (str T.text)) ∧ Below w.heap.size w w' := by
  have OK := Tn.tok_of hT
  have hhl := headT_len OK
  have HOK := Lib.hid OK
  obtain ⟨l1, l3, n1, n12, s0, s1, -, -⟩ := OK
  have HV : Hid (∀ (l s : Int) (W : World), T.letters = l → T.start = s → Below w.heap.size w W → Calls Tryd.prog 43 #[.agg #[.int .i64 l, .int .i64 s, .slice A T.moves.length c]] W fun e w' => e = .returned (.bool true) ∧ Below W.heap.size W w') := Lib.hid fun l s W e1 e2 hb => by
    have := validTurner_impl _ T W ⟨A, c, rfl, r1.up hb⟩ hn
    rw [hT, e1, e2] at this
    exact this
  have hf : T.text = T.headT ++ rowsT T.moves := rfl
  rw [hf]
  obtain ⟨l, hll⟩ := Int.eq_ofNat_of_zero_le (show 0 ≤ T.letters by omega)
  obtain ⟨s, hss⟩ := Int.eq_ofNat_of_zero_le s0
  obtain ⟨N, hN⟩ : ∃ N, N = numsT [(l : Int), (T.moves.length : Int), (s : Int)] := ⟨_, rfl⟩
  have hNl : N.length ≤ 24 := by
    have := numsT_len (xs := [(l : Int), (T.moves.length : Int), (s : Int)]) (fun x hx => by
      simp only [List.mem_cons, List.mem_nil_iff, or_false] at hx
      rcases hx with rfl | rfl | rfl <;> omega)
    rw [hN]
    simpa using this
  have hX : ∀ W : World, ∀ x ∈ [(l : Int), (T.moves.length : Int), (s : Int)], 0 ≤ x ∧ x < 1000000 ∧ DecAt W x := fun W x hx => by
    simp only [List.mem_cons, List.mem_nil_iff, or_false] at hx
    rcases hx with rfl | rfl | rfl <;> exact ⟨by omega, by omega, decAt_small (by omega) (by omega) W⟩
  have HNU : Hid (∀ (W : World) (g : Nat), RdS W W.heap.size (some ⟨g, 0, none⟩) [(l : Int), (T.moves.length : Int), (s : Int)] → Calls Tryd.prog 83 #[.slice (some ⟨g, 0, none⟩) 3 3] W fun e w' => e = .returned (.string (str N)) ∧ Below W.heap.size W w') := Lib.hid fun W g hr => by
    rw [hN]
    exact numbersText (some ⟨g, 0, none⟩) [(l : Int), (T.moves.length : Int), (s : Int)] 3 W hr (by simp) (hX _)
  have hhd : T.headT = turnerT ++ N ++ [10] := by rw [hN]; unfold Tn.headT; rw [hll, hss]
  obtain ⟨X1, hX1⟩ : ∃ X, X = turnerT ++ N := ⟨_, rfl⟩
  have g1 : X1.length ≤ 30 := by rw [hX1]; unfold turnerT; simp; omega
  obtain ⟨H, hH⟩ : ∃ H, H = T.headT := ⟨_, rfl⟩
  have a1 : ({ data := #[116, 117, 114, 110, 101, 114] } : ByteArray) ++ str N = str X1 := by rw [hX1]; exact str_add turnerT N
  have a2 : str X1 ++ ({ data := #[10] } : ByteArray) = str H := by rw [hH, hhd, ← hX1]; exact str_add X1 [10]
  have t1 : ¬ 9223372036854775807 < 6 + (str N).size := by rw [str_size]; omega
  have t1' : ¬ 9223372036854775807 < ({ data := #[116, 117, 114, 110, 101, 114] } : ByteArray).size + (str N).size := t1
  have t2 : ¬ 9223372036854775807 < (str X1).size + 1 := by rw [str_size]; omega
  have t2' : ¬ 9223372036854775807 < (str X1).size + ({ data := #[10] } : ByteArray).size := t2
  rw [← hH] at hhl ⊢
  rw [hll, hss]
  have HLS := Lib.hid (And.intro hll hss)
  clear hf hhd hN hX hX1 hH hT s1 hll hss
  go_enter Tryd.func39, Tryd.ntmps39
  go_wp2_with fail
  refine (HV.out l s _ HLS.out.1 HLS.out.2 (by repeat (first | exact Below.refl _ _ | refine Below.alloc ?_ (by first | omega | (simp only [sz_alloc, sz_set, sz_drew, sz_drewN]; omega) | (simp only [sz_alloc, sz_set, sz_drew, sz_drewN] at *; omega)) _ | refine Below.setCell ?_ (by first | omega | (simp only [sz_alloc, sz_set, sz_drew, sz_drewN]; omega) | (simp only [sz_alloc, sz_set, sz_drew, sz_drewN] at *; omega)) _ | refine Below.drew ?_ | refine below_drewN_ ?_ _))).mono ?_
  rintro e w1 ⟨rfl, hb1⟩
  have HBw1 : Since w w1 := ⟨below_cat (by repeat (first | exact Below.refl _ _ | exact Since.out (by assumption) | refine Below.alloc ?_ (by first | omega | (simp only [sz_alloc, sz_set, sz_drew, sz_drewN]; omega) | (simp only [sz_alloc, sz_set, sz_drew, sz_drewN] at *; omega)) _ | refine Below.setCell ?_ (by first | omega | (simp only [sz_alloc, sz_set, sz_drew, sz_drewN]; omega) | (simp only [sz_alloc, sz_set, sz_drew, sz_drewN] at *; omega)) _ | refine Below.drew ?_ | refine below_drewN_ ?_ _)) hb1 (by first | omega | (simp only [sz_alloc, sz_set, sz_drew, sz_drewN]; omega) | (simp only [sz_alloc, sz_set, sz_drew, sz_drewN] at *; omega))⟩; have hzw1 := hb1.size; (try simp only [sz_alloc, sz_set, sz_drew, sz_drewN] at hzw1); have hcw1k0 := fun o => hb1.cell (p := ⟨w.heap.size, o, none⟩) (by first | omega | (simp only [sz_alloc, sz_set, sz_drew, sz_drewN]; omega) | (simp only [sz_alloc, sz_set, sz_drew, sz_drewN] at *; omega)); have hfw1k0 := fun o => hb1.frozen (p := ⟨w.heap.size, o, none⟩) (by first | omega | (simp only [sz_alloc, sz_set, sz_drew, sz_drewN]; omega) | (simp only [sz_alloc, sz_set, sz_drew, sz_drewN] at *; omega)); have hlw1k0 : w.heap.size < w1.heap.size := (by first | omega | (simp only [sz_alloc, sz_set, sz_drew, sz_drewN]; omega) | (simp only [sz_alloc, sz_set, sz_drew, sz_drewN] at *; omega))
  go_wp2
  have HB0 := Lib.hid (bld_fresh w1)
  have HRD : Hid (RdS ((w1.alloc (.cells #[.pointer none, .slice none 0 0] 116)).alloc (.cells #[.int .i64 (l : Int), .int .i64 (T.moves.length : Int), .int .i64 (s : Int)] 2)) ((w1.alloc (.cells #[.pointer none, .slice none 0 0] 116)).alloc (.cells #[.int .i64 (l : Int), .int .i64 (T.moves.length : Int), .int .i64 (s : Int)] 2)).heap.size (some ⟨w1.heap.size + 1, 0, none⟩) [(l : Int), (T.moves.length : Int), (s : Int)]) := Lib.hid (by
    have h := rd_new (w1.alloc (.cells #[.pointer none, .slice none 0 0] 116)) [(l : Int), (T.moves.length : Int), (s : Int)] 2
    rw [show (w1.alloc (.cells #[.pointer none, .slice none 0 0] 116)).heap.size = w1.heap.size + 1 from sz_alloc _ _] at h
    exact h)
  have hw1 : w.heap.size < w1.heap.size := hlw1k0
  refine Held.begin (fun w' => w'.cell? ⟨w.heap.size, 0, none⟩ = some (.int .i64 (l : Int)) ∧ w'.cell? ⟨w.heap.size, 1, none⟩ = some (.int .i64 (s : Int)) ∧ w'.cell? ⟨w.heap.size, 2, none⟩ = some (.slice A T.moves.length c)) 12 (by kernel_rfl) (by (try dsimp only); (first | (go_keep; done) | (and_intros <;> go_simp))) (fun hHeld => ?_); (first | (refine Held.take (i := 0) (v := undef) (by (simp only [List.getElem?_toArray, List.getElem?_cons_succ, List.getElem?_cons_zero]); exact rfl) (by decide) (by kernel_rfl) (by kernel_rfl) (by kernel_rfl) (by kernel_rfl) (by exact fun _ _ _ h => h) (by exact Or.inr ⟨by rfl, rfl⟩) (by assumption) ?_) | (refine Held.take (i := 0) (v := ?_) (by (simp only [List.getElem?_toArray, List.getElem?_cons_succ, List.getElem?_cons_zero]); exact rfl) (by decide) (by kernel_rfl) (by kernel_rfl) (by kernel_rfl) (by kernel_rfl) (by exact fun _ _ _ h => h) (by refine Or.inl ⟨by rfl, ?_⟩; intro wS hSw; (try dsimp only at hSw); go_simp; (try with_reducible rfl)) (by assumption) ?_)); (try simp only [Act.put, List.setIfInBounds_toArray, List.set_cons_zero, List.set_cons_succ]); (first | (refine Held.take (i := 1) (v := undef) (by (simp only [List.getElem?_toArray, List.getElem?_cons_succ, List.getElem?_cons_zero]); exact rfl) (by decide) (by kernel_rfl) (by kernel_rfl) (by kernel_rfl) (by kernel_rfl) (by exact fun _ _ _ h => h) (by exact Or.inr ⟨by rfl, rfl⟩) (by assumption) ?_) | (refine Held.take (i := 1) (v := ?_) (by (simp only [List.getElem?_toArray, List.getElem?_cons_succ, List.getElem?_cons_zero]); exact rfl) (by decide) (by kernel_rfl) (by kernel_rfl) (by kernel_rfl) (by kernel_rfl) (by exact fun _ _ _ h => h) (by refine Or.inl ⟨by rfl, ?_⟩; intro wS hSw; (try dsimp only at hSw); go_simp; (try with_reducible rfl)) (by assumption) ?_)); (try simp only [Act.put, List.setIfInBounds_toArray, List.set_cons_zero, List.set_cons_succ]); (first | (refine Held.take (i := 2) (v := undef) (by (simp only [List.getElem?_toArray, List.getElem?_cons_succ, List.getElem?_cons_zero]); exact rfl) (by decide) (by kernel_rfl) (by kernel_rfl) (by kernel_rfl) (by kernel_rfl) (by exact fun _ _ _ h => h) (by exact Or.inr ⟨by rfl, rfl⟩) (by assumption) ?_) | (refine Held.take (i := 2) (v := ?_) (by (simp only [List.getElem?_toArray, List.getElem?_cons_succ, List.getElem?_cons_zero]); exact rfl) (by decide) (by kernel_rfl) (by kernel_rfl) (by kernel_rfl) (by kernel_rfl) (by exact fun _ _ _ h => h) (by refine Or.inl ⟨by rfl, ?_⟩; intro wS hSw; (try dsimp only at hSw); go_simp; (try with_reducible rfl)) (by assumption) ?_)); (try simp only [Act.put, List.setIfInBounds_toArray, List.set_cons_zero, List.set_cons_succ]); (first | (refine Held.take (i := 3) (v := undef) (by (simp only [List.getElem?_toArray, List.getElem?_cons_succ, List.getElem?_cons_zero]); exact rfl) (by decide) (by kernel_rfl) (by kernel_rfl) (by kernel_rfl) (by kernel_rfl) (by exact fun _ _ _ h => h) (by exact Or.inr ⟨by rfl, rfl⟩) (by assumption) ?_) | (refine Held.take (i := 3) (v := ?_) (by (simp only [List.getElem?_toArray, List.getElem?_cons_succ, List.getElem?_cons_zero]); exact rfl) (by decide) (by kernel_rfl) (by kernel_rfl) (by kernel_rfl) (by kernel_rfl) (by exact fun _ _ _ h => h) (by refine Or.inl ⟨by rfl, ?_⟩; intro wS hSw; (try dsimp only at hSw); go_simp; (try with_reducible rfl)) (by assumption) ?_)); (try simp only [Act.put, List.setIfInBounds_toArray, List.set_cons_zero, List.set_cons_succ]); (first | (refine Held.take (i := 5) (v := undef) (by (simp only [List.getElem?_toArray, List.getElem?_cons_succ, List.getElem?_cons_zero]); exact rfl) (by decide) (by kernel_rfl) (by kernel_rfl) (by kernel_rfl) (by kernel_rfl) (by exact fun _ _ _ h => h) (by exact Or.inr ⟨by rfl, rfl⟩) (by assumption) ?_) | (refine Held.take (i := 5) (v := ?_) (by (simp only [List.getElem?_toArray, List.getElem?_cons_succ, List.getElem?_cons_zero]); exact rfl) (by decide) (by kernel_rfl) (by kernel_rfl) (by kernel_rfl) (by kernel_rfl) (by exact fun _ _ _ h => h) (by refine Or.inl ⟨by rfl, ?_⟩; intro wS hSw; (try dsimp only at hSw); go_simp; (try with_reducible rfl)) (by assumption) ?_)); (try simp only [Act.put, List.setIfInBounds_toArray, List.set_cons_zero, List.set_cons_succ]); (first | (refine Held.take (i := 6) (v := undef) (by (simp only [List.getElem?_toArray, List.getElem?_cons_succ, List.getElem?_cons_zero]); exact rfl) (by decide) (by kernel_rfl) (by kernel_rfl) (by kernel_rfl) (by kernel_rfl) (by exact fun _ _ _ h => h) (by exact Or.inr ⟨by rfl, rfl⟩) (by assumption) ?_) | (refine Held.take (i := 6) (v := ?_) (by (simp only [List.getElem?_toArray, List.getElem?_cons_succ, List.getElem?_cons_zero]); exact rfl) (by decide) (by kernel_rfl) (by kernel_rfl) (by kernel_rfl) (by kernel_rfl) (by exact fun _ _ _ h => h) (by refine Or.inl ⟨by rfl, ?_⟩; intro wS hSw; (try dsimp only at hSw); go_simp; (try with_reducible rfl)) (by assumption) ?_)); (try simp only [Act.put, List.setIfInBounds_toArray, List.set_cons_zero, List.set_cons_succ]); refine Held.one (i := 4) (by (simp only [List.getElem?_toArray, List.getElem?_cons_succ, List.getElem?_cons_zero]); exact rfl) (by kernel_rfl) (fun K hK => ?_); (go_simp; refine (sizeMoveS A T.moves.length c _ (by omega)).mono ?_; rintro e _ ⟨rfl, rfl⟩; go_wp2_with fail); refine hK.out _ _ (by (try dsimp only); (first | (go_keep; done) | (and_intros <;> go_simp))) (fun hHeld => ?_); clear hK K; (try simp only [Act.put, List.setIfInBounds_toArray, List.set_cons_zero, List.set_cons_succ]); refine Held.one (i := 7) (by (simp only [List.getElem?_toArray, List.getElem?_cons_succ, List.getElem?_cons_zero]); exact rfl) (by kernel_rfl) (fun K hK => ?_); go_simp; refine hK.out _ _ (by (try dsimp only); (first | (go_keep; done) | (and_intros <;> go_simp))) (fun hHeld => ?_); clear hK K; (try simp only [Act.put, List.setIfInBounds_toArray, List.set_cons_zero, List.set_cons_succ]); refine Held.one (i := 8) (by (simp only [List.getElem?_toArray, List.getElem?_cons_succ, List.getElem?_cons_zero]); exact rfl) (by kernel_rfl) (fun K hK => ?_); (go_simp; refine (HNU.out _ _ (by exact HRD.out.keep (fun _ _ => rfl))).mono ?_; rintro e w2 ⟨rfl, hb2⟩; have HBw2 : Since w w2 := ⟨below_cat (by repeat (first | exact Below.refl _ _ | exact Since.out (by assumption) | refine Below.alloc ?_ (by first | omega | (simp only [sz_alloc, sz_set, sz_drew, sz_drewN]; omega) | (simp only [sz_alloc, sz_set, sz_drew, sz_drewN] at *; omega)) _ | refine Below.setCell ?_ (by first | omega | (simp only [sz_alloc, sz_set, sz_drew, sz_drewN]; omega) | (simp only [sz_alloc, sz_set, sz_drew, sz_drewN] at *; omega)) _ | refine Below.drew ?_ | refine below_drewN_ ?_ _)) hb2 (by first | omega | (simp only [sz_alloc, sz_set, sz_drew, sz_drewN]; omega) | (simp only [sz_alloc, sz_set, sz_drew, sz_drewN] at *; omega))⟩; have hzw2 := hb2.size; (try simp only [sz_alloc, sz_set, sz_drew, sz_drewN] at hzw2); have hcw2k0 := fun o => hb2.cell (p := ⟨w.heap.size, o, none⟩) (by first | omega | (simp only [sz_alloc, sz_set, sz_drew, sz_drewN]; omega) | (simp only [sz_alloc, sz_set, sz_drew, sz_drewN] at *; omega)); have hfw2k0 := fun o => hb2.frozen (p := ⟨w.heap.size, o, none⟩) (by first | omega | (simp only [sz_alloc, sz_set, sz_drew, sz_drewN]; omega) | (simp only [sz_alloc, sz_set, sz_drew, sz_drewN] at *; omega)); have hlw2k0 : w.heap.size < w2.heap.size := (by first | omega | (simp only [sz_alloc, sz_set, sz_drew, sz_drewN]; omega) | (simp only [sz_alloc, sz_set, sz_drew, sz_drewN] at *; omega)); have HB2 := Lib.hid (HB0.out.below (w' := w2) (below_cat (by repeat (first | exact Below.refl _ _ | refine Below.alloc ?_ (by first | omega | (simp only [sz_alloc, sz_set, sz_drew, sz_drewN]; omega) | (simp only [sz_alloc, sz_set, sz_drew, sz_drewN] at *; omega)) _ | refine Below.setCell ?_ (by first | omega | (simp only [sz_alloc, sz_set, sz_drew, sz_drewN]; omega) | (simp only [sz_alloc, sz_set, sz_drew, sz_drewN] at *; omega)) _ | refine Below.drew ?_ | refine below_drewN_ ?_ _)) hb2 (by first | omega | (simp only [sz_alloc, sz_set, sz_drew, sz_drewN]; omega) | (simp only [sz_alloc, sz_set, sz_drew, sz_drewN] at *; omega)))); go_wp2_with fail); refine hK.out _ _ (by (try dsimp only); (first | (go_keep; done) | (and_intros <;> go_simp))) (fun hHeld => ?_); clear hK K; (try simp only [Act.put, List.setIfInBounds_toArray, List.set_cons_zero, List.set_cons_succ]); (first | (refine Held.take (i := 9) (v := undef) (by (simp only [List.getElem?_toArray, List.getElem?_cons_succ, List.getElem?_cons_zero]); exact rfl) (by decide) (by kernel_rfl) (by kernel_rfl) (by kernel_rfl) (by kernel_rfl) (by exact fun _ _ _ h => h) (by exact Or.inr ⟨by rfl, rfl⟩) (by assumption) ?_) | (refine Held.take (i := 9) (v := ?_) (by (simp only [List.getElem?_toArray, List.getElem?_cons_succ, List.getElem?_cons_zero]); exact rfl) (by decide) (by kernel_rfl) (by kernel_rfl) (by kernel_rfl) (by kernel_rfl) (by exact fun _ _ _ h => h) (by refine Or.inl ⟨by rfl, ?_⟩; intro wS hSw; (try dsimp only at hSw); go_simp; (try with_reducible rfl)) (by assumption) ?_)); (try simp only [Act.put, List.setIfInBounds_toArray, List.set_cons_zero, List.set_cons_succ]); (first | (refine Held.take (i := 10) (v := undef) (by (simp only [List.getElem?_toArray, List.getElem?_cons_succ, List.getElem?_cons_zero]); exact rfl) (by decide) (by kernel_rfl) (by kernel_rfl) (by kernel_rfl) (by kernel_rfl) (by exact fun _ _ _ h => h) (by exact Or.inr ⟨by rfl, rfl⟩) (by assumption) ?_) | (refine Held.take (i := 10) (v := ?_) (by (simp only [List.getElem?_toArray, List.getElem?_cons_succ, List.getElem?_cons_zero]); exact rfl) (by decide) (by kernel_rfl) (by kernel_rfl) (by kernel_rfl) (by kernel_rfl) (by exact fun _ _ _ h => h) (by refine Or.inl ⟨by rfl, ?_⟩; intro wS hSw; (try dsimp only at hSw); go_simp; (try with_reducible rfl)) (by assumption) ?_)); (try simp only [Act.put, List.setIfInBounds_toArray, List.set_cons_zero, List.set_cons_succ]); refine Held.one (i := 11) (by (simp only [List.getElem?_toArray, List.getElem?_cons_succ, List.getElem?_cons_zero]); exact rfl) (by kernel_rfl) (fun K hK => ?_); (go_simp; refine (bld_write w1.heap.size [] H w2 HB2.out (by simp; omega)).mono ?_; rintro e w3 ⟨rfl, hbl3, hb3⟩; have hc3 := fun o => hb3.cell (p := ⟨w.heap.size, o, none⟩) hw1; go_wp2_with fail); refine hK.out _ _ (by (try dsimp only); (first | (go_keep; done) | (and_intros <;> go_simp))) (fun hHeld => ?_); clear hK K; (try simp only [Act.put, List.setIfInBounds_toArray, List.set_cons_zero, List.set_cons_succ]); refine Held.done (by kernel_rfl) ?_ _
  have HB3 : Since w w3 := ⟨HBw2.out.trans (hb3.mono (by omega))⟩
  have HBL3 := Lib.hid hbl3
  have e3 : w3.cell? ⟨w.heap.size, 2, none⟩ = some (.slice A T.moves.length c) := (hb3.cell (p := ⟨w.heap.size, 2, none⟩) hw1).trans (by go_simp)
  have hz3 := hb3.size
  have hlw3 : w.heap.size < w3.heap.size := by omega
  clear a1 a2 t1 t1' t2 t2' hbl3
  go_wp2
  go_loopw [26] (fun i wr => ∃ k : Nat, k ≤ T.moves.length ∧ i = .int .i64 k ∧ Hid (Bld wr w1.heap.size (H ++ rowsT (T.moves.take k)) ∧ Below w1.heap.size w3 wr)) (fun i _ => T.moves.length - (intOf i).toNat)
  case atStart => exact ⟨0, Nat.zero_le _, rfl, Lib.hid ⟨by simpa [rowsT] using HBL3.out, Below.refl _ _⟩⟩
  case round =>
    obtain ⟨k, hk, rfl, HR⟩ := hrel
    obtain ⟨wo, rfl⟩ : ∃ wo, wo = wr := ⟨_, rfl⟩
    have hzo := HR.out.2.size
    have hbo := HR.out.1.lt
    by_cases hlt : k < T.moves.length
    · obtain ⟨x, hx⟩ := get_some hlt
      obtain ⟨b', o, P, p, rfl, hbb, cx, hxl, rx⟩ := ((r1.below HB3.out (Nat.le_refl _)).below HR.out.2 (Nat.le_of_lt hw1)).row hx
      have hxm := HOK.out.mv x (List.mem_of_getElem? hx)
      have hx5 := hxm.1
      have HX := Lib.hid hxm.2
      have HTK := Lib.hid (rowsT_snoc hx)
      obtain ⟨G, hG⟩ : ∃ G, G = H ++ rowsT (T.moves.take k) := ⟨_, rfl⟩
      have hgl : G.length ≤ 652 := by
        have := rowsT_len (xs := T.moves.take k) (fun r hr => HOK.out.mv r (List.mem_of_mem_take hr))
        have := List.length_take_le k T.moves
        rw [hG, List.length_append]
        omega
      rw [← hG] at HR
      have HG := Lib.hid hG
      have hbb2 : b' < wo.heap.size := by omega
      have i2 : (0 : Int) ≤ (k : Int) := by omega
      have i3 : (k : Int) < (T.moves.length : Int) := by omega
      clear hx hG hxm
      go_wp2_with fail
      refine (bld_write w1.heap.size G stateT wo HR.out.1 (by unfold stateT; simp; omega)).mono ?_
      rintro e w4 ⟨rfl, hbl4, hb4⟩
      have HB4 := Lib.hid (And.intro hbl4 hb4)
      have hz4 := hb4.size
      clear hbl4 hb4
      go_wp2
      go_loopw [33] (fun i wi => ∃ j : Nat, j ≤ x.length ∧ i = .int .i64 j ∧ Hid (Bld wi w1.heap.size (G ++ stateT ++ movesT (x.take j)) ∧ Below w1.heap.size wo wi)) (fun i _ => x.length - (intOf i).toNat)
      case atStart => exact ⟨0, Nat.zero_le _, rfl, Lib.hid ⟨by simpa [movesT] using HB4.out.1, HB4.out.2⟩⟩
      case round =>
        obtain ⟨j, hj, rfl, HI⟩ := hrel
        obtain ⟨wi, rfl⟩ : ∃ wi, wi = wr := ⟨_, rfl⟩
        have hzi := HI.out.2.size
        have hbi := HI.out.1.lt
        obtain ⟨Q, hQ⟩ : ∃ Q, Q = G ++ stateT ++ movesT (x.take j) := ⟨_, rfl⟩
        have hql : Q.length ≤ 702 := by
          have := movesT_len (xs := x.take j) (fun y hy => HX.out y (List.mem_of_mem_take hy))
          have := List.length_take_le j x
          rw [hQ, List.length_append, List.length_append]
          unfold stateT
          simp only [List.length_cons, List.length_nil]
          omega
        rw [← hQ] at HI
        by_cases hlt2 : j < x.length
        · obtain ⟨y, hy⟩ := get_some hlt2
          obtain ⟨f, g, rfl, hff, c5, c6⟩ := (rx.below HI.out.2 (Nat.le_of_lt hw1)).pair hy
          have hmv := HX.out y (List.mem_of_getElem? hy)
          have hml := moveT_len hmv
          have HW := Lib.hid (fun W => moveText_impl y hmv W)
          have HT2 := Lib.hid (movesT_snoc hy)
          obtain ⟨M, hM⟩ : ∃ M, M = moveT y := ⟨_, rfl⟩
          rw [← hM] at HW HT2 hml
          have HQ := Lib.hid hQ
          have j2 : (0 : Int) ≤ (j : Int) := by omega
          have j3 : (j : Int) < (x.length : Int) := by omega
          have hff2 : f < wi.heap.size := by omega
          have e1 : ({ data := #[32] } : ByteArray) ++ str M = str (32 :: M) := str_add [32] M
          have u0 : ¬ 9223372036854775807 < 1 + (str M).size := by rw [str_size]; omega
          have u0' : ¬ 9223372036854775807 < ({ data := #[32] } : ByteArray).size + (str M).size := u0
          clear hy hM hQ hmv
          go_wp2_with fail
          refine (HW.out _).mono ?_
          rintro e w5 ⟨rfl, hb5⟩
          have hz5 := hb5.size
          (try simp only [sz_alloc, sz_set, sz_drew, sz_drewN] at hz5)
          have HB5 := Lib.hid (HI.out.1.below (w' := w5) (below_cat (by repeat (first | exact Below.refl _ _ | refine Below.alloc ?_ (by first | omega | (simp only [sz_alloc, sz_set, sz_drew, sz_drewN]; omega) | (simp only [sz_alloc, sz_set, sz_drew, sz_drewN] at *; omega)) _ | refine Below.setCell ?_ (by first | omega | (simp only [sz_alloc, sz_set, sz_drew, sz_drewN]; omega) | (simp only [sz_alloc, sz_set, sz_drew, sz_drewN] at *; omega)) _ | refine Below.drew ?_ | refine below_drewN_ ?_ _)) hb5 (by first | omega | (simp only [sz_alloc, sz_set, sz_drew, sz_drewN]; omega) | (simp only [sz_alloc, sz_set, sz_drew, sz_drewN] at *; omega))))
          have HS5 : Below w1.heap.size wo w5 := HI.out.2.trans ((below_cat (B := wi.heap.size) (by repeat (first | exact Below.refl _ _ | refine Below.alloc ?_ (by first | omega | (simp only [sz_alloc, sz_set, sz_drew, sz_drewN]; omega) | (simp only [sz_alloc, sz_set, sz_drew, sz_drewN] at *; omega)) _ | refine Below.setCell ?_ (by first | omega | (simp only [sz_alloc, sz_set, sz_drew, sz_drewN]; omega) | (simp only [sz_alloc, sz_set, sz_drew, sz_drewN] at *; omega)) _ | refine Below.drew ?_ | refine below_drewN_ ?_ _)) hb5 (by first | omega | (simp only [sz_alloc, sz_set, sz_drew, sz_drewN]; omega) | (simp only [sz_alloc, sz_set, sz_drew, sz_drewN] at *; omega))).mono (Nat.le_of_lt hbi))
          have HS6 := Lib.hid HS5
          clear HS5
          go_wp2_with fail
          refine (bld_write w1.heap.size Q (32 :: M) w5 HB5.out (by simp; omega)).mono ?_
          rintro e w6 ⟨rfl, hbl6, hb6⟩
          have HB6 := Lib.hid (And.intro hbl6 hb6)
          clear hbl6 hb6
          go_wp2
          go_roundw
          case rel => exact ⟨j + 1, by omega, by go_num, Lib.hid ⟨by rw [HT2.out, ← List.append_assoc, ← HQ.out]; exact HB6.out.1, HS6.out.trans HB6.out.2⟩⟩
          case measure => simp [intOf]; omega
        · obtain rfl : j = x.length := by omega
          rw [List.take_length] at hQ
          have HQ := Lib.hid hQ
          clear hQ
          go_wp2_with fail
          refine (bld_write w1.heap.size Q [10] wi HI.out.1 (by simp; omega)).mono ?_
          rintro e w6 ⟨rfl, hbl6, hb6⟩
          have HB6 := Lib.hid (And.intro hbl6 hb6)
          clear hbl6 hb6
          go_wp2
          go_roundw
          case rel => exact ⟨k + 1, by omega, by go_num, Lib.hid ⟨by rw [HTK.out, ← List.append_assoc, ← HG.out]; have h := HB6.out.1; rw [HQ.out] at h; simpa [rowT] using h, HR.out.2.trans (HI.out.2.trans HB6.out.2)⟩⟩
          case measure => simp [intOf]; omega
    · obtain rfl : k = T.moves.length := by omega
      have HBo : Since w wo := ⟨HB3.out.trans (HR.out.2.mono (Nat.le_of_lt hw1))⟩
      have HF := HR.out.1
      rw [List.take_length] at HF
      have HF := Lib.hid HF
      go_wp2_with fail
      refine (bld_string w1.heap.size _ wo HF.out).mono ?_
      rintro e w6 ⟨rfl, hb6⟩
      have HB6 : Since w w6 := ⟨HBo.out.trans (hb6.mono (Nat.le_of_lt hw1))⟩
      go_wp2
      go_ret
      exact ⟨rfl, HB6.out⟩

theorem turnerText_spec (v : Value) (T : Tn) (w : World) (h1 : RdTn w w.heap.size v T) (hn : T.tot ≤ 1048576) :
    Calls Tryd.prog 37 #[v] w fun e w' => e = .returned (.string (str T.textC)) ∧ Below w.heap.size w w' := by
  obtain ⟨A, c, rfl, r1⟩ := h1
  by_cases hT : T.okB = true
  · have hC : T.textC = T.text := by unfold Tn.textC; rw [if_pos hT]
    rw [hC]
    exact turnerText_spec_yes A c T w r1 hn hT
  · have hT := Bool.not_eq_true _ |>.mp hT
    have hC : T.textC = [] := by unfold Tn.textC; rw [hT]; rfl
    rw [hC]
    have HT := Lib.hid hT
    clear hT
    go_enter Tryd.func37, Tryd.ntmps37
    go_wp2_with fail
    refine (l02Ok w.heap.size A c T _ (by go_simp) (by go_simp) (by go_simp) (by first | omega | (simp only [sz_alloc, sz_set, sz_drew, sz_drewN]; omega) | (simp only [sz_alloc, sz_set, sz_drew, sz_drewN] at *; omega)) (r1.up (by repeat (first | exact Below.refl _ _ | refine Below.alloc ?_ (by first | omega | (simp only [sz_alloc, sz_set, sz_drew, sz_drewN]; omega) | (simp only [sz_alloc, sz_set, sz_drew, sz_drewN] at *; omega)) _ | refine Below.setCell ?_ (by first | omega | (simp only [sz_alloc, sz_set, sz_drew, sz_drewN]; omega) | (simp only [sz_alloc, sz_set, sz_drew, sz_drewN] at *; omega)) _ | refine Below.drew ?_ | refine below_drewN_ ?_ _))) hn).mono ?_
    rintro e w1 ⟨rfl, hb1⟩
    rw [HT.out]
    have HBw1 : Since w w1 := ⟨below_cat (by repeat (first | exact Below.refl _ _ | exact Since.out (by assumption) | refine Below.alloc ?_ (by first | omega | (simp only [sz_alloc, sz_set, sz_drew, sz_drewN]; omega) | (simp only [sz_alloc, sz_set, sz_drew, sz_drewN] at *; omega)) _ | refine Below.setCell ?_ (by first | omega | (simp only [sz_alloc, sz_set, sz_drew, sz_drewN]; omega) | (simp only [sz_alloc, sz_set, sz_drew, sz_drewN] at *; omega)) _ | refine Below.drew ?_ | refine below_drewN_ ?_ _)) hb1 (by first | omega | (simp only [sz_alloc, sz_set, sz_drew, sz_drewN]; omega) | (simp only [sz_alloc, sz_set, sz_drew, sz_drewN] at *; omega))⟩; have hzw1 := hb1.size; (try simp only [sz_alloc, sz_set, sz_drew, sz_drewN] at hzw1); have hcw1k0 := fun o => hb1.cell (p := ⟨w.heap.size, o, none⟩) (by first | omega | (simp only [sz_alloc, sz_set, sz_drew, sz_drewN]; omega) | (simp only [sz_alloc, sz_set, sz_drew, sz_drewN] at *; omega)); have hfw1k0 := fun o => hb1.frozen (p := ⟨w.heap.size, o, none⟩) (by first | omega | (simp only [sz_alloc, sz_set, sz_drew, sz_drewN]; omega) | (simp only [sz_alloc, sz_set, sz_drew, sz_drewN] at *; omega)); have hlw1k0 : w.heap.size < w1.heap.size := (by first | omega | (simp only [sz_alloc, sz_set, sz_drew, sz_drewN]; omega) | (simp only [sz_alloc, sz_set, sz_drew, sz_drewN] at *; omega))
    go_wp2
    go_ret
    exact ⟨rfl, (by repeat (first | exact Below.refl _ _ | exact Since.out (by assumption) | refine Below.alloc ?_ (by first | omega | (simp only [sz_alloc, sz_set, sz_drew, sz_drewN]; omega) | (simp only [sz_alloc, sz_set, sz_drew, sz_drewN] at *; omega)) _ | refine Below.setCell ?_ (by first | omega | (simp only [sz_alloc, sz_set, sz_drew, sz_drewN]; omega) | (simp only [sz_alloc, sz_set, sz_drew, sz_drewN] at *; omega)) _ | refine Below.drew ?_ | refine below_drewN_ ?_ _))⟩

theorem turnerText_impl (v : Value) (T : Tn) (w : World) (h1 : RdTn w w.heap.size v T) (hn : T.tot ≤ 1048576) :
    Calls Tryd.prog 39 #[v] w fun e w' => e = .returned (.string (str T.textC)) ∧ Below w.heap.size w w' := by
  obtain ⟨A, c, rfl, r1⟩ := h1
  by_cases hT : T.okB = true
  · have hC : T.textC = T.text := by unfold Tn.textC; rw [if_pos hT]
    rw [hC]
    exact turnerText_impl_yes A c T w r1 hn hT
  · have hT := Bool.not_eq_true _ |>.mp hT
    have hC : T.textC = [] := by unfold Tn.textC; rw [hT]; rfl
    rw [hC]
    have HT := Lib.hid hT
    clear hT
    go_enter Tryd.func39, Tryd.ntmps39
    go_wp2_with fail
    refine (validTurner_impl _ T _ ⟨A, c, rfl, r1.up (by repeat (first | exact Below.refl _ _ | refine Below.alloc ?_ (by first | omega | (simp only [sz_alloc, sz_set, sz_drew, sz_drewN]; omega) | (simp only [sz_alloc, sz_set, sz_drew, sz_drewN] at *; omega)) _ | refine Below.setCell ?_ (by first | omega | (simp only [sz_alloc, sz_set, sz_drew, sz_drewN]; omega) | (simp only [sz_alloc, sz_set, sz_drew, sz_drewN] at *; omega)) _ | refine Below.drew ?_ | refine below_drewN_ ?_ _))⟩ hn).mono ?_
    rintro e w1 ⟨rfl, hb1⟩
    rw [HT.out]
    have HBw1 : Since w w1 := ⟨below_cat (by repeat (first | exact Below.refl _ _ | exact Since.out (by assumption) | refine Below.alloc ?_ (by first | omega | (simp only [sz_alloc, sz_set, sz_drew, sz_drewN]; omega) | (simp only [sz_alloc, sz_set, sz_drew, sz_drewN] at *; omega)) _ | refine Below.setCell ?_ (by first | omega | (simp only [sz_alloc, sz_set, sz_drew, sz_drewN]; omega) | (simp only [sz_alloc, sz_set, sz_drew, sz_drewN] at *; omega)) _ | refine Below.drew ?_ | refine below_drewN_ ?_ _)) hb1 (by first | omega | (simp only [sz_alloc, sz_set, sz_drew, sz_drewN]; omega) | (simp only [sz_alloc, sz_set, sz_drew, sz_drewN] at *; omega))⟩; have hzw1 := hb1.size; (try simp only [sz_alloc, sz_set, sz_drew, sz_drewN] at hzw1); have hcw1k0 := fun o => hb1.cell (p := ⟨w.heap.size, o, none⟩) (by first | omega | (simp only [sz_alloc, sz_set, sz_drew, sz_drewN]; omega) | (simp only [sz_alloc, sz_set, sz_drew, sz_drewN] at *; omega)); have hfw1k0 := fun o => hb1.frozen (p := ⟨w.heap.size, o, none⟩) (by first | omega | (simp only [sz_alloc, sz_set, sz_drew, sz_drewN]; omega) | (simp only [sz_alloc, sz_set, sz_drew, sz_drewN] at *; omega)); have hlw1k0 : w.heap.size < w1.heap.size := (by first | omega | (simp only [sz_alloc, sz_set, sz_drew, sz_drewN]; omega) | (simp only [sz_alloc, sz_set, sz_drew, sz_drewN] at *; omega))
    go_wp2
    go_ret
    exact ⟨rfl, (by repeat (first | exact Below.refl _ _ | exact Since.out (by assumption) | refine Below.alloc ?_ (by first | omega | (simp only [sz_alloc, sz_set, sz_drew, sz_drewN]; omega) | (simp only [sz_alloc, sz_set, sz_drew, sz_drewN] at *; omega)) _ | refine Below.setCell ?_ (by first | omega | (simp only [sz_alloc, sz_set, sz_drew, sz_drewN]; omega) | (simp only [sz_alloc, sz_set, sz_drew, sz_drewN] at *; omega)) _ | refine Below.drew ?_ | refine below_drewN_ ?_ _))⟩
end Go.Proofs.YtelmooaenodfaaaDoor
