/-
  Contracts of ReaderText, by the program; both with the way that fails. Conditions: those in each statement.
-/
import Derived.Test.YtelmooaenodfaaaDoorRrTxt
import Derived.Lib.AppendIntMem
set_option linter.unusedVariables false
set_option linter.unusedSimpArgs false
set_option maxRecDepth 100000
set_option maxHeartbeats 1000000
namespace Go.Proofs.YtelmooaenodfaaaDoor
open Go.RowKit

theorem var_below {P : Program} {w w' : World} {n : String} {cs : Array Value} (h : w.var? P n = some cs) (hb : Below w.heap.size w w') : w'.var? P n = some cs := by
  unfold World.var? at h ⊢
  obtain ⟨g, hg, hm⟩ := Option.bind_eq_some_iff.1 h
  rw [hg]
  simp only [Option.bind_some]
  have hlt : g < w.heap.size := by
    by_cases hc : g < w.heap.size
    · exact hc
    · rw [Array.getElem?_eq_none (by omega)] at hm
      simp at hm
  rw [hb.block g hlt]
  exact hm
/-- The table of the powers of ten, as the call finds it. -/
def Pow (w : World) : Prop := Lib.TabIs Tryd.prog w "internal/strconv.uint64pow10" .u64 Lib.pow10Tab
theorem Pow.up {w w' : World} (h : Pow w) (hb : Below w.heap.size w w') : Pow w' := var_below h hb
theorem Pow.below {w w' : World} {B : Nat} (h : Pow w) (hb : Below B w w') (hB : w.heap.size ≤ B) : Pow w' := var_below h (hb.mono hB)
theorem decimal_tab (n : Nat) (hn : n ≤ 9223372036854775807) (w : World) (ht : Pow w) : Calls Tryd.prog 124 #[.int .i64 n] w fun e w' => e = .returned (.string (str (Lib.decDigits n))) ∧ Below w.heap.size w w' := by
  have hfi := Tryd.strconv_FormatInt_10 (n : Int) (by omega) (by omega) w ht
  rw [Lib.itoa_nonneg] at hfi
  obtain ⟨D, hD⟩ : ∃ D, D = Lib.decDigits n := ⟨_, rfl⟩
  rw [← hD] at hfi ⊢
  clear hD
  go_enter Tryd.func124, Tryd.ntmps124
  go_wp2_with fail
  refine hfi.mono ?_
  rintro e w' ⟨rfl, k, os, rfl⟩
  have hb := Lib.hid (Lib.below_grow w.heap.size w (Nat.le_refl _) k os)
  obtain ⟨w1, hw1⟩ : ∃ w1, w1 = Go.Sort.grow (w.drewN k) os := ⟨_, rfl⟩
  rw [← hw1] at hb ⊢
  clear hw1
  go_wp2
  go_ret
  exact ⟨rfl, hb.out⟩
theorem decAt_tab {x : Int} (h0 : 0 ≤ x) (h1 : x ≤ 9223372036854775807) (w : World) (ht : Pow w) : DecAt w x := fun W hW => by
  obtain ⟨n, rfl⟩ := Int.eq_ofNat_of_zero_le h0
  exact decimal_tab n (by omega) W (ht.up hW)

set_option maxHeartbeats 8000000 in
theorem readerText_impl_yes (A : Option Addr) (c : Nat) (B : Option Addr) (d : Nat) (T : Rr) (w : World) (ht : Pow w) (r1 : RdS w w.heap.size A T.accept) (r2 : RdS w w.heap.size B T.next) (hn : T.tot ≤ 1048576) (hT : T.okB = true) :
    Calls Tryd.prog 35 #[.agg #[.int .i64 T.letters, .int .i64 T.start, .slice A T.accept.length c, .slice B T.next.length d]] w fun e w' => e = .returned (.string (str T.text)) ∧ Below w.heap.size w w' := by
  have OK := Rr.tok_of hT
  have hhl := headRT_len OK
  have HOK := Lib.hid OK
  obtain ⟨l1, l3, n1, n300, s0, s1, hsm, -⟩ := OK
  have HT0 := Lib.hid ht
  clear ht
  have HV : Hid (∀ (l s : Int) (W : World), T.letters = l → T.start = s → Below w.heap.size w W → Calls Tryd.prog 59 #[.agg #[.int .i64 l, .int .i64 s, .slice A T.accept.length c, .slice B T.next.length d]] W fun e w' => e = .returned (.bool true) ∧ Below W.heap.size W w') := Lib.hid fun l s W e1 e2 hb => by
    have := validReader_impl _ T W ⟨A, c, B, d, rfl, r1.up hb, r2.up hb⟩ hn
    rw [hT, e1, e2] at this
    exact this
  have hf : T.text = T.headT ++ rowsRT T.accept T.next T.accept.length := rfl
  rw [hf]
  obtain ⟨l, hll⟩ := Int.eq_ofNat_of_zero_le (show 0 ≤ T.letters by omega)
  obtain ⟨s, hss⟩ := Int.eq_ofNat_of_zero_le s0
  obtain ⟨N, hN⟩ : ∃ N, N = numsT [(l : Int), (T.accept.length : Int), (s : Int)] := ⟨_, rfl⟩
  have hNl : N.length ≤ 24 := by
    have := numsT_len (xs := [(l : Int), (T.accept.length : Int), (s : Int)]) (fun x hx => by
      simp only [List.mem_cons, List.mem_nil_iff, or_false] at hx
      rcases hx with rfl | rfl | rfl <;> omega)
    rw [hN]
    simpa using this
  have HNU : Hid (∀ (W : World) (g : Nat), Pow W → RdS W W.heap.size (some ⟨g, 0, none⟩) [(l : Int), (T.accept.length : Int), (s : Int)] → Calls Tryd.prog 83 #[.slice (some ⟨g, 0, none⟩) 3 3] W fun e w' => e = .returned (.string (str N)) ∧ Below W.heap.size W w') := Lib.hid fun W g hp hr => by
    rw [hN]
    exact numbersText (some ⟨g, 0, none⟩) [(l : Int), (T.accept.length : Int), (s : Int)] 3 W hr (by simp) (fun x hx => by
      simp only [List.mem_cons, List.mem_nil_iff, or_false] at hx
      rcases hx with rfl | rfl | rfl <;> exact ⟨by omega, by omega, decAt_tab (by omega) (by omega) W hp⟩)
  have hhd : T.headT = readerT ++ N ++ [10] := by rw [hN]; unfold Rr.headT; rw [hll, hss]
  obtain ⟨X1, hX1⟩ : ∃ X, X = readerT ++ N := ⟨_, rfl⟩
  have g1 : X1.length ≤ 30 := by rw [hX1]; unfold readerT; simp; omega
  obtain ⟨H, hH⟩ : ∃ H, H = T.headT := ⟨_, rfl⟩
  have a1 : ({ data := #[114, 101, 97, 100, 101, 114] } : ByteArray) ++ str N = str X1 := by rw [hX1]; exact str_add readerT N
  have a2 : str X1 ++ ({ data := #[10] } : ByteArray) = str H := by rw [hH, hhd, ← hX1]; exact str_add X1 [10]
  have t1 : ¬ 9223372036854775807 < 6 + (str N).size := by rw [str_size]; omega
  have t1' : ¬ 9223372036854775807 < ({ data := #[114, 101, 97, 100, 101, 114] } : ByteArray).size + (str N).size := t1
  have t2 : ¬ 9223372036854775807 < (str X1).size + 1 := by rw [str_size]; omega
  have t2' : ¬ 9223372036854775807 < (str X1).size + ({ data := #[10] } : ByteArray).size := t2
  rw [← hH] at hhl ⊢
  rw [hll, hss]
  have HLS := Lib.hid (And.intro hll hss)
  have HSM := Lib.hid hsm
  have hsz : Calls Tryd.prog 84 #[.slice B T.next.length d] = Calls Tryd.prog 84 #[.slice B T.accept.length d] := by rw [hsm]
  have HSZ : Hid (∀ W : World, Calls Tryd.prog 84 #[.slice B T.next.length d] W fun e w' => e = .returned (.int .i64 T.accept.length) ∧ W = w') := Lib.hid fun W => by rw [hsm]; exact sizeIntS B T.accept.length d W (by omega)
  clear hf hhd hN hX1 hH hT s1 hll hss hsz hsm
  go_enter Tryd.func35, Tryd.ntmps35
  go_wp2_with fail
  refine (HV.out l s _ HLS.out.1 HLS.out.2 (by repeat (first | exact Below.refl _ _ | refine Below.alloc ?_ (by first | omega | (simp only [sz_alloc, sz_set, sz_drew, sz_drewN]; omega) | (simp only [sz_alloc, sz_set, sz_drew, sz_drewN] at *; omega)) _ | refine Below.setCell ?_ (by first | omega | (simp only [sz_alloc, sz_set, sz_drew, sz_drewN]; omega) | (simp only [sz_alloc, sz_set, sz_drew, sz_drewN] at *; omega)) _ | refine Below.drew ?_ | refine below_drewN_ ?_ _))).mono ?_
  rintro e w1 ⟨rfl, hb1⟩
  have HBw1 : Since w w1 := ⟨below_cat (by repeat (first | exact Below.refl _ _ | exact Since.out (by assumption) | refine Below.alloc ?_ (by first | omega | (simp only [sz_alloc, sz_set, sz_drew, sz_drewN]; omega) | (simp only [sz_alloc, sz_set, sz_drew, sz_drewN] at *; omega)) _ | refine Below.setCell ?_ (by first | omega | (simp only [sz_alloc, sz_set, sz_drew, sz_drewN]; omega) | (simp only [sz_alloc, sz_set, sz_drew, sz_drewN] at *; omega)) _ | refine Below.drew ?_ | refine below_drewN_ ?_ _)) hb1 (by first | omega | (simp only [sz_alloc, sz_set, sz_drew, sz_drewN]; omega) | (simp only [sz_alloc, sz_set, sz_drew, sz_drewN] at *; omega))⟩; have hzw1 := hb1.size; (try simp only [sz_alloc, sz_set, sz_drew, sz_drewN] at hzw1); have hcw1k0 := fun o => hb1.cell (p := ⟨w.heap.size, o, none⟩) (by first | omega | (simp only [sz_alloc, sz_set, sz_drew, sz_drewN]; omega) | (simp only [sz_alloc, sz_set, sz_drew, sz_drewN] at *; omega)); have hfw1k0 := fun o => hb1.frozen (p := ⟨w.heap.size, o, none⟩) (by first | omega | (simp only [sz_alloc, sz_set, sz_drew, sz_drewN]; omega) | (simp only [sz_alloc, sz_set, sz_drew, sz_drewN] at *; omega)); have hlw1k0 : w.heap.size < w1.heap.size := (by first | omega | (simp only [sz_alloc, sz_set, sz_drew, sz_drewN]; omega) | (simp only [sz_alloc, sz_set, sz_drew, sz_drewN] at *; omega))
  go_wp2
  have HP1 := Lib.hid (HT0.out.below HBw1.out (Nat.le_refl _))
  have HB0 := Lib.hid (bld_fresh w1)
  have HRD : Hid (RdS ((w1.alloc (.cells #[.pointer none, .slice none 0 0] 116)).alloc (.cells #[.int .i64 (l : Int), .int .i64 (T.accept.length : Int), .int .i64 (s : Int)] 2)) ((w1.alloc (.cells #[.pointer none, .slice none 0 0] 116)).alloc (.cells #[.int .i64 (l : Int), .int .i64 (T.accept.length : Int), .int .i64 (s : Int)] 2)).heap.size (some ⟨w1.heap.size + 1, 0, none⟩) [(l : Int), (T.accept.length : Int), (s : Int)]) := Lib.hid (by
    have h := rd_new (w1.alloc (.cells #[.pointer none, .slice none 0 0] 116)) [(l : Int), (T.accept.length : Int), (s : Int)] 2
    rw [show (w1.alloc (.cells #[.pointer none, .slice none 0 0] 116)).heap.size = w1.heap.size + 1 from sz_alloc _ _] at h
    exact h)
  have hw1 : w.heap.size < w1.heap.size := hlw1k0
  refine Held.begin (fun w' => w'.cell? ⟨w.heap.size, 0, none⟩ = some (.int .i64 (l : Int)) ∧ w'.cell? ⟨w.heap.size, 1, none⟩ = some (.int .i64 (s : Int)) ∧ w'.cell? ⟨w.heap.size, 2, none⟩ = some (.slice A T.accept.length c) ∧ w'.cell? ⟨w.heap.size, 3, none⟩ = some (.slice B T.next.length d)) 12 (by kernel_rfl) (by (try dsimp only); (first | (go_keep; done) | (and_intros <;> go_simp))) (fun hHeld => ?_); (first | (refine Held.take (i := 0) (v := undef) (by (simp only [List.getElem?_toArray, List.getElem?_cons_succ, List.getElem?_cons_zero]); exact rfl) (by decide) (by kernel_rfl) (by kernel_rfl) (by kernel_rfl) (by kernel_rfl) (by exact fun _ _ _ h => h) (by exact Or.inr ⟨by rfl, rfl⟩) (by assumption) ?_) | (refine Held.take (i := 0) (v := ?_) (by (simp only [List.getElem?_toArray, List.getElem?_cons_succ, List.getElem?_cons_zero]); exact rfl) (by decide) (by kernel_rfl) (by kernel_rfl) (by kernel_rfl) (by kernel_rfl) (by exact fun _ _ _ h => h) (by refine Or.inl ⟨by rfl, ?_⟩; intro wS hSw; (try dsimp only at hSw); go_simp; (try with_reducible rfl)) (by assumption) ?_)); (try simp only [Act.put, List.setIfInBounds_toArray, List.set_cons_zero, List.set_cons_succ]); (first | (refine Held.take (i := 1) (v := undef) (by (simp only [List.getElem?_toArray, List.getElem?_cons_succ, List.getElem?_cons_zero]); exact rfl) (by decide) (by kernel_rfl) (by kernel_rfl) (by kernel_rfl) (by kernel_rfl) (by exact fun _ _ _ h => h) (by exact Or.inr ⟨by rfl, rfl⟩) (by assumption) ?_) | (refine Held.take (i := 1) (v := ?_) (by (simp only [List.getElem?_toArray, List.getElem?_cons_succ, List.getElem?_cons_zero]); exact rfl) (by decide) (by kernel_rfl) (by kernel_rfl) (by kernel_rfl) (by kernel_rfl) (by exact fun _ _ _ h => h) (by refine Or.inl ⟨by rfl, ?_⟩; intro wS hSw; (try dsimp only at hSw); go_simp; (try with_reducible rfl)) (by assumption) ?_)); (try simp only [Act.put, List.setIfInBounds_toArray, List.set_cons_zero, List.set_cons_succ]); (first | (refine Held.take (i := 2) (v := undef) (by (simp only [List.getElem?_toArray, List.getElem?_cons_succ, List.getElem?_cons_zero]); exact rfl) (by decide) (by kernel_rfl) (by kernel_rfl) (by kernel_rfl) (by kernel_rfl) (by exact fun _ _ _ h => h) (by exact Or.inr ⟨by rfl, rfl⟩) (by assumption) ?_) | (refine Held.take (i := 2) (v := ?_) (by (simp only [List.getElem?_toArray, List.getElem?_cons_succ, List.getElem?_cons_zero]); exact rfl) (by decide) (by kernel_rfl) (by kernel_rfl) (by kernel_rfl) (by kernel_rfl) (by exact fun _ _ _ h => h) (by refine Or.inl ⟨by rfl, ?_⟩; intro wS hSw; (try dsimp only at hSw); go_simp; (try with_reducible rfl)) (by assumption) ?_)); (try simp only [Act.put, List.setIfInBounds_toArray, List.set_cons_zero, List.set_cons_succ]); (first | (refine Held.take (i := 3) (v := undef) (by (simp only [List.getElem?_toArray, List.getElem?_cons_succ, List.getElem?_cons_zero]); exact rfl) (by decide) (by kernel_rfl) (by kernel_rfl) (by kernel_rfl) (by kernel_rfl) (by exact fun _ _ _ h => h) (by exact Or.inr ⟨by rfl, rfl⟩) (by assumption) ?_) | (refine Held.take (i := 3) (v := ?_) (by (simp only [List.getElem?_toArray, List.getElem?_cons_succ, List.getElem?_cons_zero]); exact rfl) (by decide) (by kernel_rfl) (by kernel_rfl) (by kernel_rfl) (by kernel_rfl) (by exact fun _ _ _ h => h) (by refine Or.inl ⟨by rfl, ?_⟩; intro wS hSw; (try dsimp only at hSw); go_simp; (try with_reducible rfl)) (by assumption) ?_)); (try simp only [Act.put, List.setIfInBounds_toArray, List.set_cons_zero, List.set_cons_succ]); (first | (refine Held.take (i := 5) (v := undef) (by (simp only [List.getElem?_toArray, List.getElem?_cons_succ, List.getElem?_cons_zero]); exact rfl) (by decide) (by kernel_rfl) (by kernel_rfl) (by kernel_rfl) (by kernel_rfl) (by exact fun _ _ _ h => h) (by exact Or.inr ⟨by rfl, rfl⟩) (by assumption) ?_) | (refine Held.take (i := 5) (v := ?_) (by (simp only [List.getElem?_toArray, List.getElem?_cons_succ, List.getElem?_cons_zero]); exact rfl) (by decide) (by kernel_rfl) (by kernel_rfl) (by kernel_rfl) (by kernel_rfl) (by exact fun _ _ _ h => h) (by refine Or.inl ⟨by rfl, ?_⟩; intro wS hSw; (try dsimp only at hSw); go_simp; (try with_reducible rfl)) (by assumption) ?_)); (try simp only [Act.put, List.setIfInBounds_toArray, List.set_cons_zero, List.set_cons_succ]); (first | (refine Held.take (i := 6) (v := undef) (by (simp only [List.getElem?_toArray, List.getElem?_cons_succ, List.getElem?_cons_zero]); exact rfl) (by decide) (by kernel_rfl) (by kernel_rfl) (by kernel_rfl) (by kernel_rfl) (by exact fun _ _ _ h => h) (by exact Or.inr ⟨by rfl, rfl⟩) (by assumption) ?_) | (refine Held.take (i := 6) (v := ?_) (by (simp only [List.getElem?_toArray, List.getElem?_cons_succ, List.getElem?_cons_zero]); exact rfl) (by decide) (by kernel_rfl) (by kernel_rfl) (by kernel_rfl) (by kernel_rfl) (by exact fun _ _ _ h => h) (by refine Or.inl ⟨by rfl, ?_⟩; intro wS hSw; (try dsimp only at hSw); go_simp; (try with_reducible rfl)) (by assumption) ?_)); (try simp only [Act.put, List.setIfInBounds_toArray, List.set_cons_zero, List.set_cons_succ]); refine Held.one (i := 4) (by (simp only [List.getElem?_toArray, List.getElem?_cons_succ, List.getElem?_cons_zero]); exact rfl) (by kernel_rfl) (fun K hK => ?_); (go_simp; refine (HSZ.out _).mono ?_; rintro e _ ⟨rfl, rfl⟩; go_wp2_with fail); refine hK.out _ _ (by (try dsimp only); (first | (go_keep; done) | (and_intros <;> go_simp))) (fun hHeld => ?_); clear hK K; (try simp only [Act.put, List.setIfInBounds_toArray, List.set_cons_zero, List.set_cons_succ]); refine Held.one (i := 7) (by (simp only [List.getElem?_toArray, List.getElem?_cons_succ, List.getElem?_cons_zero]); exact rfl) (by kernel_rfl) (fun K hK => ?_); go_simp; refine hK.out _ _ (by (try dsimp only); (first | (go_keep; done) | (and_intros <;> go_simp))) (fun hHeld => ?_); clear hK K; (try simp only [Act.put, List.setIfInBounds_toArray, List.set_cons_zero, List.set_cons_succ]); refine Held.one (i := 8) (by (simp only [List.getElem?_toArray, List.getElem?_cons_succ, List.getElem?_cons_zero]); exact rfl) (by kernel_rfl) (fun K hK => ?_); (go_simp; refine (HNU.out _ _ (HP1.out.below (B := w1.heap.size) (by repeat (first | exact Below.refl _ _ | refine Below.alloc ?_ (by first | omega | (simp only [sz_alloc, sz_set, sz_drew, sz_drewN]; omega) | (simp only [sz_alloc, sz_set, sz_drew, sz_drewN] at *; omega)) _ | refine Below.setCell ?_ (by first | omega | (simp only [sz_alloc, sz_set, sz_drew, sz_drewN]; omega) | (simp only [sz_alloc, sz_set, sz_drew, sz_drewN] at *; omega)) _ | refine Below.drew ?_ | refine below_drewN_ ?_ _)) (Nat.le_refl _)) (by exact HRD.out.keep (fun _ _ => rfl))).mono ?_; rintro e w2 ⟨rfl, hb2⟩; have HBw2 : Since w w2 := ⟨below_cat (by repeat (first | exact Below.refl _ _ | exact Since.out (by assumption) | refine Below.alloc ?_ (by first | omega | (simp only [sz_alloc, sz_set, sz_drew, sz_drewN]; omega) | (simp only [sz_alloc, sz_set, sz_drew, sz_drewN] at *; omega)) _ | refine Below.setCell ?_ (by first | omega | (simp only [sz_alloc, sz_set, sz_drew, sz_drewN]; omega) | (simp only [sz_alloc, sz_set, sz_drew, sz_drewN] at *; omega)) _ | refine Below.drew ?_ | refine below_drewN_ ?_ _)) hb2 (by first | omega | (simp only [sz_alloc, sz_set, sz_drew, sz_drewN]; omega) | (simp only [sz_alloc, sz_set, sz_drew, sz_drewN] at *; omega))⟩; have hzw2 := hb2.size; (try simp only [sz_alloc, sz_set, sz_drew, sz_drewN] at hzw2); have hcw2k0 := fun o => hb2.cell (p := ⟨w.heap.size, o, none⟩) (by first | omega | (simp only [sz_alloc, sz_set, sz_drew, sz_drewN]; omega) | (simp only [sz_alloc, sz_set, sz_drew, sz_drewN] at *; omega)); have hfw2k0 := fun o => hb2.frozen (p := ⟨w.heap.size, o, none⟩) (by first | omega | (simp only [sz_alloc, sz_set, sz_drew, sz_drewN]; omega) | (simp only [sz_alloc, sz_set, sz_drew, sz_drewN] at *; omega)); have hlw2k0 : w.heap.size < w2.heap.size := (by first | omega | (simp only [sz_alloc, sz_set, sz_drew, sz_drewN]; omega) | (simp only [sz_alloc, sz_set, sz_drew, sz_drewN] at *; omega)); have HB2 := Lib.hid (HB0.out.below (w' := w2) (below_cat (by repeat (first | exact Below.refl _ _ | refine Below.alloc ?_ (by first | omega | (simp only [sz_alloc, sz_set, sz_drew, sz_drewN]; omega) | (simp only [sz_alloc, sz_set, sz_drew, sz_drewN] at *; omega)) _ | refine Below.setCell ?_ (by first | omega | (simp only [sz_alloc, sz_set, sz_drew, sz_drewN]; omega) | (simp only [sz_alloc, sz_set, sz_drew, sz_drewN] at *; omega)) _ | refine Below.drew ?_ | refine below_drewN_ ?_ _)) hb2 (by first | omega | (simp only [sz_alloc, sz_set, sz_drew, sz_drewN]; omega) | (simp only [sz_alloc, sz_set, sz_drew, sz_drewN] at *; omega)))); go_wp2_with fail); refine hK.out _ _ (by (try dsimp only); (first | (go_keep; done) | (and_intros <;> go_simp))) (fun hHeld => ?_); clear hK K; (try simp only [Act.put, List.setIfInBounds_toArray, List.set_cons_zero, List.set_cons_succ]); (first | (refine Held.take (i := 9) (v := undef) (by (simp only [List.getElem?_toArray, List.getElem?_cons_succ, List.getElem?_cons_zero]); exact rfl) (by decide) (by kernel_rfl) (by kernel_rfl) (by kernel_rfl) (by kernel_rfl) (by exact fun _ _ _ h => h) (by exact Or.inr ⟨by rfl, rfl⟩) (by assumption) ?_) | (refine Held.take (i := 9) (v := ?_) (by (simp only [List.getElem?_toArray, List.getElem?_cons_succ, List.getElem?_cons_zero]); exact rfl) (by decide) (by kernel_rfl) (by kernel_rfl) (by kernel_rfl) (by kernel_rfl) (by exact fun _ _ _ h => h) (by refine Or.inl ⟨by rfl, ?_⟩; intro wS hSw; (try dsimp only at hSw); go_simp; (try with_reducible rfl)) (by assumption) ?_)); (try simp only [Act.put, List.setIfInBounds_toArray, List.set_cons_zero, List.set_cons_succ]); (first | (refine Held.take (i := 10) (v := undef) (by (simp only [List.getElem?_toArray, List.getElem?_cons_succ, List.getElem?_cons_zero]); exact rfl) (by decide) (by kernel_rfl) (by kernel_rfl) (by kernel_rfl) (by kernel_rfl) (by exact fun _ _ _ h => h) (by exact Or.inr ⟨by rfl, rfl⟩) (by assumption) ?_) | (refine Held.take (i := 10) (v := ?_) (by (simp only [List.getElem?_toArray, List.getElem?_cons_succ, List.getElem?_cons_zero]); exact rfl) (by decide) (by kernel_rfl) (by kernel_rfl) (by kernel_rfl) (by kernel_rfl) (by exact fun _ _ _ h => h) (by refine Or.inl ⟨by rfl, ?_⟩; intro wS hSw; (try dsimp only at hSw); go_simp; (try with_reducible rfl)) (by assumption) ?_)); (try simp only [Act.put, List.setIfInBounds_toArray, List.set_cons_zero, List.set_cons_succ]); refine Held.one (i := 11) (by (simp only [List.getElem?_toArray, List.getElem?_cons_succ, List.getElem?_cons_zero]); exact rfl) (by kernel_rfl) (fun K hK => ?_); (go_simp; refine (bld_write w1.heap.size [] H w2 HB2.out (by simp; omega)).mono ?_; rintro e w3 ⟨rfl, hbl3, hb3⟩; have hc3 := fun o => hb3.cell (p := ⟨w.heap.size, o, none⟩) hw1; go_wp2_with fail); refine hK.out _ _ (by (try dsimp only); (first | (go_keep; done) | (and_intros <;> go_simp))) (fun hHeld => ?_); clear hK K; (try simp only [Act.put, List.setIfInBounds_toArray, List.set_cons_zero, List.set_cons_succ]); refine Held.done (by kernel_rfl) ?_ _
  have HB3 : Since w w3 := ⟨HBw2.out.trans (hb3.mono (by omega))⟩
  have HBL3 := Lib.hid hbl3
  have e2 : w3.cell? ⟨w.heap.size, 2, none⟩ = some (.slice A T.accept.length c) := (hb3.cell (p := ⟨w.heap.size, 2, none⟩) hw1).trans (by go_simp)
  have e3 : w3.cell? ⟨w.heap.size, 3, none⟩ = some (.slice B T.next.length d) := (hb3.cell (p := ⟨w.heap.size, 3, none⟩) hw1).trans (by go_simp)
  have hz3 := hb3.size
  have hlw3 : w.heap.size < w3.heap.size := by omega
  clear a1 a2 t1 t1' t2 t2' hbl3
  go_wp2
  go_loopw [25] (fun i wr => ∃ k : Nat, k ≤ T.next.length ∧ i = .int .i64 k ∧ Hid (Bld wr w1.heap.size (H ++ rowsRT T.accept T.next k) ∧ Below w1.heap.size w3 wr)) (fun i _ => T.next.length - (intOf i).toNat)
  case atStart => exact ⟨0, Nat.zero_le _, rfl, Lib.hid ⟨by rw [rowsRT_zero, List.append_nil]; simpa using HBL3.out, Below.refl _ _⟩⟩
  case round =>
    obtain ⟨k, hk, rfl, HR⟩ := hrel
    obtain ⟨wo, rfl⟩ : ∃ wo, wo = wr := ⟨_, rfl⟩
    have hzo := HR.out.2.size
    have hbo := HR.out.1.lt
    have e2o := (HR.out.2.cell (p := ⟨w.heap.size, 2, none⟩) hw1).trans e2
    by_cases hlt : k < T.next.length
    · have hlt2 : k < T.accept.length := by have := HSM.out; omega
      obtain ⟨x, hx⟩ := get_some hlt
      obtain ⟨bb, hbb⟩ := get_some hlt2
      obtain ⟨b', o, P, p, rfl, hbx, cx, hxl, rx⟩ := ((r2.below HB3.out (Nat.le_refl _)).below HR.out.2 (Nat.le_of_lt hw1)).row hx
      obtain ⟨f', f, rfl, hfx, cb⟩ := ((r1.below HB3.out (Nat.le_refl _)).below HR.out.2 (Nat.le_of_lt hw1)).bool hbb
      have hxm := HOK.out.row x (List.mem_of_getElem? hx)
      have hx5 := hxm.1
      have HX := Lib.hid hxm.2
      have HTK := Lib.hid (rowsRT_snoc hbb hx)
      obtain ⟨G, hG⟩ : ∃ G, G = H ++ rowsRT T.accept T.next k := ⟨_, rfl⟩
      have hgl : G.length ≤ 8440 := by
        have := rowsRT_len (acc := T.accept) HOK.out.big k
        rw [hG, List.length_append]
        omega
      rw [← hG] at HR
      have HG := Lib.hid hG
      obtain ⟨M, hM⟩ : ∃ M, M = numsT x := ⟨_, rfl⟩
      have hml : M.length ≤ 24 := by
        have := numsT_len (xs := x) (fun y hy => by have := HX.out y hy; omega)
        rw [hM]
        omega
      have HP2 : Hid (Pow wo) := Lib.hid (HT0.out.up (HB3.out.trans (HR.out.2.mono (Nat.le_of_lt hw1))))
      have HMC : Hid (∀ W : World, Below wo.heap.size wo W → Calls Tryd.prog 83 #[.slice P x.length p] W fun e w' => e = .returned (.string (str M)) ∧ Below W.heap.size W w') := Lib.hid fun W hW => by
        rw [hM]
        exact numbersText P x p W ((rx.more (by omega)).up hW) (by omega) (fun y hy => by
          have := HX.out y hy
          exact ⟨by omega, by omega, decAt_tab (by omega) (by omega) W (HP2.out.up hW)⟩)
      have HM := Lib.hid hM
      have hbx2 : b' < wo.heap.size := by omega
      have hfx2 : f' < wo.heap.size := by omega
      have i2 : (0 : Int) ≤ (k : Int) := by omega
      have i3 : (k : Int) < (T.accept.length : Int) := by omega
      have i4 : (k : Int) < (T.next.length : Int) := by omega
      clear hx hbb hG hxm hM
      cases bb
      · obtain ⟨Y, hY⟩ : ∃ Y, Y = [110, 111] ++ M := ⟨_, rfl⟩
        have hYl : Y.length ≤ 27 := by rw [hY]; simp; omega
        have b1 : ({ data := #[110, 111] } : ByteArray) ++ str M = str Y := by rw [hY]; exact str_add [110, 111] M
        have b2 : ¬ 9223372036854775807 < 2 + (str M).size := by rw [str_size]; omega
        have b2' : ¬ 9223372036854775807 < ({ data := #[110, 111] } : ByteArray).size + (str M).size := b2
        have b3 : str Y ++ ({ data := #[10] } : ByteArray) = str (Y ++ [10]) := str_add Y [10]
        have b4 : ¬ 9223372036854775807 < (str Y).size + 1 := by rw [str_size]; omega
        have b4' : ¬ 9223372036854775807 < (str Y).size + ({ data := #[10] } : ByteArray).size := b4
        have HY := Lib.hid hY
        clear hY
        go_wp2_with fail
        refine (HMC.out _ (by repeat (first | exact Below.refl _ _ | refine Below.alloc ?_ (by first | omega | (simp only [sz_alloc, sz_set, sz_drew, sz_drewN]; omega) | (simp only [sz_alloc, sz_set, sz_drew, sz_drewN] at *; omega)) _ | refine Below.setCell ?_ (by first | omega | (simp only [sz_alloc, sz_set, sz_drew, sz_drewN]; omega) | (simp only [sz_alloc, sz_set, sz_drew, sz_drewN] at *; omega)) _ | refine Below.drew ?_ | refine below_drewN_ ?_ _))).mono ?_
        rintro e w5 ⟨rfl, hb5⟩
        have hz5 := hb5.size
        (try simp only [sz_alloc, sz_set, sz_drew, sz_drewN] at hz5)
        have HB5 := Lib.hid (HR.out.1.below (w' := w5) (below_cat (by repeat (first | exact Below.refl _ _ | refine Below.alloc ?_ (by first | omega | (simp only [sz_alloc, sz_set, sz_drew, sz_drewN]; omega) | (simp only [sz_alloc, sz_set, sz_drew, sz_drewN] at *; omega)) _ | refine Below.setCell ?_ (by first | omega | (simp only [sz_alloc, sz_set, sz_drew, sz_drewN]; omega) | (simp only [sz_alloc, sz_set, sz_drew, sz_drewN] at *; omega)) _ | refine Below.drew ?_ | refine below_drewN_ ?_ _)) hb5 (by first | omega | (simp only [sz_alloc, sz_set, sz_drew, sz_drewN]; omega) | (simp only [sz_alloc, sz_set, sz_drew, sz_drewN] at *; omega))))
        have HS5 := Lib.hid (HR.out.2.trans ((below_cat (B := wo.heap.size) (by repeat (first | exact Below.refl _ _ | refine Below.alloc ?_ (by first | omega | (simp only [sz_alloc, sz_set, sz_drew, sz_drewN]; omega) | (simp only [sz_alloc, sz_set, sz_drew, sz_drewN] at *; omega)) _ | refine Below.setCell ?_ (by first | omega | (simp only [sz_alloc, sz_set, sz_drew, sz_drewN]; omega) | (simp only [sz_alloc, sz_set, sz_drew, sz_drewN] at *; omega)) _ | refine Below.drew ?_ | refine below_drewN_ ?_ _)) hb5 (by first | omega | (simp only [sz_alloc, sz_set, sz_drew, sz_drewN]; omega) | (simp only [sz_alloc, sz_set, sz_drew, sz_drewN] at *; omega))).mono (Nat.le_of_lt hbo)))
        go_wp2_with fail
        refine (bld_write w1.heap.size G (Y ++ [10]) w5 HB5.out (by simp; omega)).mono ?_
        rintro e w6 ⟨rfl, hbl6, hb6⟩
        have HB6 := Lib.hid (And.intro hbl6 hb6)
        clear hbl6 hb6
        go_wp2
        go_roundw
        case rel => exact ⟨k + 1, by omega, by go_num, Lib.hid ⟨by rw [HTK.out, ← List.append_assoc, ← HG.out]; have h := HB6.out.1; rw [HY.out, HM.out] at h; simpa [yesB] using h, HS5.out.trans HB6.out.2⟩⟩
        case measure => simp [intOf]; omega
      · obtain ⟨Y, hY⟩ : ∃ Y, Y = [121, 101, 115] ++ M := ⟨_, rfl⟩
        have hYl : Y.length ≤ 27 := by rw [hY]; simp; omega
        have b1 : ({ data := #[121, 101, 115] } : ByteArray) ++ str M = str Y := by rw [hY]; exact str_add [121, 101, 115] M
        have b2 : ¬ 9223372036854775807 < 3 + (str M).size := by rw [str_size]; omega
        have b2' : ¬ 9223372036854775807 < ({ data := #[121, 101, 115] } : ByteArray).size + (str M).size := b2
        have b3 : str Y ++ ({ data := #[10] } : ByteArray) = str (Y ++ [10]) := str_add Y [10]
        have b4 : ¬ 9223372036854775807 < (str Y).size + 1 := by rw [str_size]; omega
        have b4' : ¬ 9223372036854775807 < (str Y).size + ({ data := #[10] } : ByteArray).size := b4
        have HY := Lib.hid hY
        clear hY
        go_wp2_with fail
        refine (HMC.out _ (by repeat (first | exact Below.refl _ _ | refine Below.alloc ?_ (by first | omega | (simp only [sz_alloc, sz_set, sz_drew, sz_drewN]; omega) | (simp only [sz_alloc, sz_set, sz_drew, sz_drewN] at *; omega)) _ | refine Below.setCell ?_ (by first | omega | (simp only [sz_alloc, sz_set, sz_drew, sz_drewN]; omega) | (simp only [sz_alloc, sz_set, sz_drew, sz_drewN] at *; omega)) _ | refine Below.drew ?_ | refine below_drewN_ ?_ _))).mono ?_
        rintro e w5 ⟨rfl, hb5⟩
        have hz5 := hb5.size
        (try simp only [sz_alloc, sz_set, sz_drew, sz_drewN] at hz5)
        have HB5 := Lib.hid (HR.out.1.below (w' := w5) (below_cat (by repeat (first | exact Below.refl _ _ | refine Below.alloc ?_ (by first | omega | (simp only [sz_alloc, sz_set, sz_drew, sz_drewN]; omega) | (simp only [sz_alloc, sz_set, sz_drew, sz_drewN] at *; omega)) _ | refine Below.setCell ?_ (by first | omega | (simp only [sz_alloc, sz_set, sz_drew, sz_drewN]; omega) | (simp only [sz_alloc, sz_set, sz_drew, sz_drewN] at *; omega)) _ | refine Below.drew ?_ | refine below_drewN_ ?_ _)) hb5 (by first | omega | (simp only [sz_alloc, sz_set, sz_drew, sz_drewN]; omega) | (simp only [sz_alloc, sz_set, sz_drew, sz_drewN] at *; omega))))
        have HS5 := Lib.hid (HR.out.2.trans ((below_cat (B := wo.heap.size) (by repeat (first | exact Below.refl _ _ | refine Below.alloc ?_ (by first | omega | (simp only [sz_alloc, sz_set, sz_drew, sz_drewN]; omega) | (simp only [sz_alloc, sz_set, sz_drew, sz_drewN] at *; omega)) _ | refine Below.setCell ?_ (by first | omega | (simp only [sz_alloc, sz_set, sz_drew, sz_drewN]; omega) | (simp only [sz_alloc, sz_set, sz_drew, sz_drewN] at *; omega)) _ | refine Below.drew ?_ | refine below_drewN_ ?_ _)) hb5 (by first | omega | (simp only [sz_alloc, sz_set, sz_drew, sz_drewN]; omega) | (simp only [sz_alloc, sz_set, sz_drew, sz_drewN] at *; omega))).mono (Nat.le_of_lt hbo)))
        go_wp2_with fail
        refine (bld_write w1.heap.size G (Y ++ [10]) w5 HB5.out (by simp; omega)).mono ?_
        rintro e w6 ⟨rfl, hbl6, hb6⟩
        have HB6 := Lib.hid (And.intro hbl6 hb6)
        clear hbl6 hb6
        go_wp2
        go_roundw
        case rel => exact ⟨k + 1, by omega, by go_num, Lib.hid ⟨by rw [HTK.out, ← List.append_assoc, ← HG.out]; have h := HB6.out.1; rw [HY.out, HM.out] at h; simpa [yesB] using h, HS5.out.trans HB6.out.2⟩⟩
        case measure => simp [intOf]; omega
    · obtain rfl : k = T.next.length := by omega
      have HBo : Since w wo := ⟨HB3.out.trans (HR.out.2.mono (Nat.le_of_lt hw1))⟩
      have HF := HR.out.1
      rw [HSM.out] at HF
      have HF := Lib.hid HF
      go_wp2_with fail
      refine (bld_string w1.heap.size _ wo HF.out).mono ?_
      rintro e w6 ⟨rfl, hb6⟩
      have HB6 : Since w w6 := ⟨HBo.out.trans (hb6.mono (Nat.le_of_lt hw1))⟩
      go_wp2
      go_ret
      exact ⟨rfl, HB6.out⟩

theorem readerText_spec (v : Value) (T : Rr) (w : World) (h1 : RdRr w w.heap.size v T) (hn : T.tot ≤ 1048576) :
    Calls Tryd.prog 33 #[v] w fun e w' => e = .returned (.string (str T.textC)) ∧ Below w.heap.size w w' := by
  obtain ⟨A, c, B, d, rfl, r1, r2⟩ := h1
  by_cases hT : T.okB = true
  · have hC : T.textC = T.text := by unfold Rr.textC; rw [if_pos hT]
    rw [hC]
    exact readerText_spec_yes A c B d T w r1 r2 hn hT
  · have hT := Bool.not_eq_true _ |>.mp hT
    have hC : T.textC = [] := by unfold Rr.textC; rw [hT]; rfl
    rw [hC]
    have HT := Lib.hid hT
    clear hT
    go_enter Tryd.func33, Tryd.ntmps33
    go_wp2_with fail
    refine (l01Ok w.heap.size A c B d T _ (by go_simp) (by go_simp) (by go_simp) (by go_simp) (by first | omega | (simp only [sz_alloc, sz_set, sz_drew, sz_drewN]; omega) | (simp only [sz_alloc, sz_set, sz_drew, sz_drewN] at *; omega)) (r2.up (by repeat (first | exact Below.refl _ _ | refine Below.alloc ?_ (by first | omega | (simp only [sz_alloc, sz_set, sz_drew, sz_drewN]; omega) | (simp only [sz_alloc, sz_set, sz_drew, sz_drewN] at *; omega)) _ | refine Below.setCell ?_ (by first | omega | (simp only [sz_alloc, sz_set, sz_drew, sz_drewN]; omega) | (simp only [sz_alloc, sz_set, sz_drew, sz_drewN] at *; omega)) _ | refine Below.drew ?_ | refine below_drewN_ ?_ _))) hn).mono ?_
    rintro e w1 ⟨rfl, hb1⟩
    rw [HT.out]
    have HBw1 : Since w w1 := ⟨below_cat (by repeat (first | exact Below.refl _ _ | exact Since.out (by assumption) | refine Below.alloc ?_ (by first | omega | (simp only [sz_alloc, sz_set, sz_drew, sz_drewN]; omega) | (simp only [sz_alloc, sz_set, sz_drew, sz_drewN] at *; omega)) _ | refine Below.setCell ?_ (by first | omega | (simp only [sz_alloc, sz_set, sz_drew, sz_drewN]; omega) | (simp only [sz_alloc, sz_set, sz_drew, sz_drewN] at *; omega)) _ | refine Below.drew ?_ | refine below_drewN_ ?_ _)) hb1 (by first | omega | (simp only [sz_alloc, sz_set, sz_drew, sz_drewN]; omega) | (simp only [sz_alloc, sz_set, sz_drew, sz_drewN] at *; omega))⟩; have hzw1 := hb1.size; (try simp only [sz_alloc, sz_set, sz_drew, sz_drewN] at hzw1); have hcw1k0 := fun o => hb1.cell (p := ⟨w.heap.size, o, none⟩) (by first | omega | (simp only [sz_alloc, sz_set, sz_drew, sz_drewN]; omega) | (simp only [sz_alloc, sz_set, sz_drew, sz_drewN] at *; omega)); have hfw1k0 := fun o => hb1.frozen (p := ⟨w.heap.size, o, none⟩) (by first | omega | (simp only [sz_alloc, sz_set, sz_drew, sz_drewN]; omega) | (simp only [sz_alloc, sz_set, sz_drew, sz_drewN] at *; omega)); have hlw1k0 : w.heap.size < w1.heap.size := (by first | omega | (simp only [sz_alloc, sz_set, sz_drew, sz_drewN]; omega) | (simp only [sz_alloc, sz_set, sz_drew, sz_drewN] at *; omega))
    go_wp2
    go_ret
    exact ⟨rfl, (by repeat (first | exact Below.refl _ _ | exact Since.out (by assumption) | refine Below.alloc ?_ (by first | omega | (simp only [sz_alloc, sz_set, sz_drew, sz_drewN]; omega) | (simp only [sz_alloc, sz_set, sz_drew, sz_drewN] at *; omega)) _ | refine Below.setCell ?_ (by first | omega | (simp only [sz_alloc, sz_set, sz_drew, sz_drewN]; omega) | (simp only [sz_alloc, sz_set, sz_drew, sz_drewN] at *; omega)) _ | refine Below.drew ?_ | refine below_drewN_ ?_ _))⟩

theorem readerText_impl (v : Value) (T : Rr) (w : World) (ht : Pow w) (h1 : RdRr w w.heap.size v T) (hn : T.tot ≤ 1048576) :
    Calls Tryd.prog 35 #[v] w fun e w' => e = .returned (.string (str T.textC)) ∧ Below w.heap.size w w' := by
  obtain ⟨A, c, B, d, rfl, r1, r2⟩ := h1
  by_cases hT : T.okB = true
  · have hC : T.textC = T.text := by unfold Rr.textC; rw [if_pos hT]
    rw [hC]
    exact readerText_impl_yes A c B d T w ht r1 r2 hn hT
  · have hT := Bool.not_eq_true _ |>.mp hT
    have hC : T.textC = [] := by unfold Rr.textC; rw [hT]; rfl
    rw [hC]
    have HT := Lib.hid hT
    clear hT
    go_enter Tryd.func35, Tryd.ntmps35
    go_wp2_with fail
    refine (validReader_impl _ T _ ⟨A, c, B, d, rfl, r1.up (by repeat (first | exact Below.refl _ _ | refine Below.alloc ?_ (by first | omega | (simp only [sz_alloc, sz_set, sz_drew, sz_drewN]; omega) | (simp only [sz_alloc, sz_set, sz_drew, sz_drewN] at *; omega)) _ | refine Below.setCell ?_ (by first | omega | (simp only [sz_alloc, sz_set, sz_drew, sz_drewN]; omega) | (simp only [sz_alloc, sz_set, sz_drew, sz_drewN] at *; omega)) _ | refine Below.drew ?_ | refine below_drewN_ ?_ _)), r2.up (by repeat (first | exact Below.refl _ _ | refine Below.alloc ?_ (by first | omega | (simp only [sz_alloc, sz_set, sz_drew, sz_drewN]; omega) | (simp only [sz_alloc, sz_set, sz_drew, sz_drewN] at *; omega)) _ | refine Below.setCell ?_ (by first | omega | (simp only [sz_alloc, sz_set, sz_drew, sz_drewN]; omega) | (simp only [sz_alloc, sz_set, sz_drew, sz_drewN] at *; omega)) _ | refine Below.drew ?_ | refine below_drewN_ ?_ _))⟩ hn).mono ?_
    rintro e w1 ⟨rfl, hb1⟩
    rw [HT.out]
    have HBw1 : Since w w1 := ⟨below_cat (by repeat (first | exact Below.refl _ _ | exact Since.out (by assumption) | refine Below.alloc ?_ (by first | omega | (simp only [sz_alloc, sz_set, sz_drew, sz_drewN]; omega) | (simp only [sz_alloc, sz_set, sz_drew, sz_drewN] at *; omega)) _ | refine Below.setCell ?_ (by first | omega | (simp only [sz_alloc, sz_set, sz_drew, sz_drewN]; omega) | (simp only [sz_alloc, sz_set, sz_drew, sz_drewN] at *; omega)) _ | refine Below.drew ?_ | refine below_drewN_ ?_ _)) hb1 (by first | omega | (simp only [sz_alloc, sz_set, sz_drew, sz_drewN]; omega) | (simp only [sz_alloc, sz_set, sz_drew, sz_drewN] at *; omega))⟩; have hzw1 := hb1.size; (try simp only [sz_alloc, sz_set, sz_drew, sz_drewN] at hzw1); have hcw1k0 := fun o => hb1.cell (p := ⟨w.heap.size, o, none⟩) (by first | omega | (simp only [sz_alloc, sz_set, sz_drew, sz_drewN]; omega) | (simp only [sz_alloc, sz_set, sz_drew, sz_drewN] at *; omega)); have hfw1k0 := fun o => hb1.frozen (p := ⟨w.heap.size, o, none⟩) (by first | omega | (simp only [sz_alloc, sz_set, sz_drew, sz_drewN]; omega) | (simp only [sz_alloc, sz_set, sz_drew, sz_drewN] at *; omega)); have hlw1k0 : w.heap.size < w1.heap.size := (by first | omega | (simp only [sz_alloc, sz_set, sz_drew, sz_drewN]; omega) | (simp only [sz_alloc, sz_set, sz_drew, sz_drewN] at *; omega))
    go_wp2
    go_ret
    exact ⟨rfl, (by repeat (first | exact Below.refl _ _ | exact Since.out (by assumption) | refine Below.alloc ?_ (by first | omega | (simp only [sz_alloc, sz_set, sz_drew, sz_drewN]; omega) | (simp only [sz_alloc, sz_set, sz_drew, sz_drewN] at *; omega)) _ | refine Below.setCell ?_ (by first | omega | (simp only [sz_alloc, sz_set, sz_drew, sz_drewN]; omega) | (simp only [sz_alloc, sz_set, sz_drew, sz_drewN] at *; omega)) _ | refine Below.drew ?_ | refine below_drewN_ ?_ _))⟩
end Go.Proofs.YtelmooaenodfaaaDoor
