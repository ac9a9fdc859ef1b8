/-
  Contracts of TurnerText, by the program and by the reference. Conditions: those in each statement.
-/
import Derived.Test.YtelmooaenodfaaaDoorTnTxt
set_option linter.unusedVariables false
set_option linter.unusedSimpArgs false
set_option maxRecDepth 100000
set_option maxHeartbeats 1000000
namespace Go.Proofs.YtelmooaenodfaaaDoor
open Go.RowKit

def movesT (r : List (Int × Int)) : List UInt8 := r.flatMap fun m => 32 :: moveT m
def stateT : List UInt8 := [115, 116, 97, 116, 101]
def rowT (r : List (Int × Int)) : List UInt8 := stateT ++ movesT r ++ [10]
def rowsT (rs : List (List (Int × Int))) : List UInt8 := rs.flatMap rowT
def turnerT : List UInt8 := [116, 117, 114, 110, 101, 114]
def Tn.headT (T : Tn) : List UInt8 := turnerT ++ numsT [T.letters, T.moves.length, T.start] ++ [10]
def Tn.text (T : Tn) : List UInt8 := T.headT ++ rowsT T.moves
def Tn.textC (T : Tn) : List UInt8 := if T.okB = true then T.text else []
theorem movesT_snoc {xs : List (Int × Int)} {k : Nat} {x : Int × Int} (h : xs[k]? = some x) : movesT (xs.take (k + 1)) = movesT (xs.take k) ++ 32 :: moveT x := by
  unfold movesT
  rw [take_snoc h, List.flatMap_append]
  simp
theorem rowsT_snoc {xs : List (List (Int × Int))} {k : Nat} {x : List (Int × Int)} (h : xs[k]? = some x) : rowsT (xs.take (k + 1)) = rowsT (xs.take k) ++ rowT x := by
  unfold rowsT
  rw [take_snoc h, List.flatMap_append]
  simp
theorem movesT_len : ∀ {xs : List (Int × Int)}, (∀ x ∈ xs, MvOk x) → (movesT xs).length ≤ 9 * xs.length
  | [], _ => Nat.zero_le _
  | x :: xs, h => by
    have h1 := moveT_len (h x (List.mem_cons_self ..))
    have h2 := movesT_len (xs := xs) fun y hy => h y (List.mem_cons_of_mem _ hy)
    have h3 : movesT (x :: xs) = 32 :: moveT x ++ movesT xs := rfl
    rw [h3, List.length_append, List.length_cons, List.length_cons]
    omega
theorem rowsT_len : ∀ {xs : List (List (Int × Int))}, (∀ r ∈ xs, r.length ≤ 5 ∧ ∀ x ∈ r, MvOk x) → (rowsT xs).length ≤ 51 * xs.length
  | [], _ => Nat.zero_le _
  | r :: xs, h => by
    have h0 := h r (List.mem_cons_self ..)
    have h1 := movesT_len h0.2
    have h2 := rowsT_len (xs := xs) fun y hy => h y (List.mem_cons_of_mem _ hy)
    have h3 : rowsT (r :: xs) = rowT r ++ rowsT xs := rfl
    rw [h3, List.length_append, List.length_cons]
    unfold rowT stateT
    simp only [List.length_append, List.length_cons, List.length_nil]
    omega
theorem moves_mem {n L : Int} : ∀ {r : List (Int × Int)} {c : Nat}, movesFrom n L c r = true → ∀ m ∈ r, ∃ c : Nat, moveOk n L c m = true
  | [], _, _, l, hl => by simp at hl
  | y :: ys, c, h, l, hl => by
    simp only [movesFrom, Bool.and_eq_true] at h
    rcases List.mem_cons.1 hl with rfl | hl
    · exact ⟨c, h.1⟩
    · exact moves_mem h.2 l hl
structure Tn.TOk (T : Tn) : Prop where
  l1 : 1 ≤ T.letters
  l3 : T.letters ≤ 3
  n1 : 1 ≤ T.moves.length
  n12 : T.moves.length ≤ 12
  s0 : 0 ≤ T.start
  s1 : T.start < T.moves.length
  row : ∀ r ∈ T.moves, (r.length : Int) = T.letters + 2
  mv : ∀ r ∈ T.moves, r.length ≤ 5 ∧ ∀ x ∈ r, MvOk x
theorem Tn.tok_of {T : Tn} (h : T.okB = true) : T.TOk := by
  unfold Tn.okB at h
  simp only [Bool.and_eq_true, List.all_eq_true] at h
  obtain ⟨a, b, c, e⟩ := h
  have a := inB_iff.1 a
  have b := inB_iff.1 b
  have c := inB_iff.1 c
  have hr : ∀ r ∈ T.moves, (r.length : Int) = T.letters + 2 := fun r hr => by
    have := e r hr
    unfold rowOk at this
    simp only [Bool.and_eq_true, decide_eq_true_eq] at this
    exact this.1
  refine ⟨a.1, a.2, by omega, by omega, c.1, by omega, hr, fun r h => ⟨by have := hr r h; omega, fun x hx => ?_⟩⟩
  have := e r h
  unfold rowOk at this
  simp only [Bool.and_eq_true, decide_eq_true_eq] at this
  obtain ⟨k, hk⟩ := moves_mem this.2 x hx
  exact mvOk_of hk b.2
theorem headT_len {T : Tn} (OK : T.TOk) : T.headT.length ≤ 40 := by
  have h := numsT_len (xs := [T.letters, T.moves.length, T.start]) (fun x hx => by
    simp only [List.mem_cons, List.mem_nil_iff, or_false] at hx
    have := OK.l1; have := OK.l3; have := OK.n12; have := OK.s0; have := OK.s1
    rcases hx with rfl | rfl | rfl <;> omega)
  unfold Tn.headT turnerT
  simp only [List.length_append, List.length_cons, List.length_nil] at h ⊢
  omega

set_option maxHeartbeats 8000000 in
theorem turnerText_spec_yes (A : Option Addr) (c : Nat) (T : Tn) (w : World) (r1 : RdS w w.heap.size A T.moves) (hn : T.tot ≤ 1048576) (hT : T.okB = true) :
    Calls Tryd.prog 37 #[.agg #[.int .i64 T.letters, .int .i64 T.start, .slice A T.moves.length c]] w fun e w' => e = .returned (.string (str T.text)) ∧ Below w.heap.size w w' := by
  have OK := Tn.tok_of hT
  have hhl := headT_len OK
  have HOK := Lib.hid OK
  obtain ⟨l1, l3, n1, n12, s0, s1, -, -⟩ := OK
  have HV : Hid (∀ (l s : Int) (W : World), T.letters = l → T.start = s → W.cell? ⟨w.heap.size, 0, none⟩ = some (.int .i64 l) → W.cell? ⟨w.heap.size, 1, none⟩ = some (.int .i64 s) → W.cell? ⟨w.heap.size, 2, none⟩ = some (.slice A T.moves.length c) → w.heap.size < W.heap.size → Below w.heap.size w W → Calls Tryd.prog 67 #[.pointer (some ⟨w.heap.size, 0, none⟩)] W fun e w' => e = .returned (.bool true) ∧ Below W.heap.size W w') := Lib.hid fun l s W e1 e2 q0 q1 q2 hz hb => by
    have := l02Ok w.heap.size A c T W (by rw [e1]; exact q0) (by rw [e2]; exact q1) q2 hz (r1.up hb) hn
    rw [hT] at this
    exact this
  have hf : T.text = T.headT ++ rowsT T.moves := rfl
  rw [hf]
  obtain ⟨l, hll⟩ := Int.eq_ofNat_of_zero_le (show 0 ≤ T.letters by omega)
  obtain ⟨s, hss⟩ := Int.eq_ofNat_of_zero_le s0
  have hhd : T.headT = turnerT ++ 32 :: (Lib.decDigits l ++ 32 :: (Lib.decDigits T.moves.length ++ 32 :: (Lib.decDigits s ++ [10]))) := by
    unfold Tn.headT numsT
    rw [hll, hss]
    simp
  obtain ⟨D1, hD1⟩ : ∃ D, D = Lib.decDigits l := ⟨_, rfl⟩
  obtain ⟨D2, hD2⟩ : ∃ D, D = Lib.decDigits T.moves.length := ⟨_, rfl⟩
  obtain ⟨D3, hD3⟩ : ∃ D, D = Lib.decDigits s := ⟨_, rfl⟩
  have HD1 : Hid (∀ W : World, Calls Tryd.prog 79 #[.int .i64 (l : Int)] W fun e w' => e = .returned (.string (str D1)) ∧ Below W.heap.size W w') := Lib.hid fun W => by rw [hD1]; exact decimal_spec l (by omega) W
  have HD2 : Hid (∀ W : World, Calls Tryd.prog 79 #[.int .i64 (T.moves.length : Int)] W fun e w' => e = .returned (.string (str D2)) ∧ Below W.heap.size W w') := Lib.hid fun W => by rw [hD2]; exact decimal_spec _ (by omega) W
  have HD3 : Hid (∀ W : World, Calls Tryd.prog 79 #[.int .i64 (s : Int)] W fun e w' => e = .returned (.string (str D3)) ∧ Below W.heap.size W w') := Lib.hid fun W => by rw [hD3]; exact decimal_spec s (by omega) W
  rw [← hD1, ← hD2, ← hD3] at hhd
  have d1 : D1.length ≤ 7 := by rw [hD1]; exact dec_len (by omega)
  have d2 : D2.length ≤ 7 := by rw [hD2]; exact dec_len (by omega)
  have d3 : D3.length ≤ 7 := by rw [hD3]; exact dec_len (by omega)
  obtain ⟨X1, hX1⟩ : ∃ X, X = [116, 117, 114, 110, 101, 114, 32] ++ D1 := ⟨_, rfl⟩
  obtain ⟨X2, hX2⟩ : ∃ X, X = X1 ++ [32] := ⟨_, rfl⟩
  obtain ⟨X3, hX3⟩ : ∃ X, X = X2 ++ D2 := ⟨_, rfl⟩
  obtain ⟨X4, hX4⟩ : ∃ X, X = X3 ++ [32] := ⟨_, rfl⟩
  obtain ⟨X5, hX5⟩ : ∃ X, X = X4 ++ D3 := ⟨_, rfl⟩
  have hX6 : X5 ++ [10] = T.headT := by rw [hhd, hX5, hX4, hX3, hX2, hX1]; simp [turnerT]
  have g1 : X1.length ≤ 14 := by rw [hX1]; simp; omega
  have g2 : X2.length ≤ 15 := by rw [hX2]; simp; omega
  have g3 : X3.length ≤ 22 := by rw [hX3]; simp; omega
  have g4 : X4.length ≤ 23 := by rw [hX4]; simp; omega
  have g5 : X5.length ≤ 30 := by rw [hX5]; simp; omega
  obtain ⟨H, hH⟩ : ∃ H, H = T.headT := ⟨_, rfl⟩
  have a1 : ({ data := #[116, 117, 114, 110, 101, 114, 32] } : ByteArray) ++ str D1 = str X1 := by rw [hX1]; exact str_add [116, 117, 114, 110, 101, 114, 32] D1
  have a2 : str X1 ++ ({ data := #[32] } : ByteArray) = str X2 := by rw [hX2]; exact str_add X1 [32]
  have a3 : str X2 ++ str D2 = str X3 := by rw [hX3]; exact str_add _ _
  have a4 : str X3 ++ ({ data := #[32] } : ByteArray) = str X4 := by rw [hX4]; exact str_add X3 [32]
  have a5 : str X4 ++ str D3 = str X5 := by rw [hX5]; exact str_add _ _
  have a6 : str X5 ++ ({ data := #[10] } : ByteArray) = str H := by rw [hH, ← hX6]; exact str_add X5 [10]
  have t1 : ¬ 9223372036854775807 < 7 + (str D1).size := by rw [str_size]; omega
  have t1' : ¬ 9223372036854775807 < ({ data := #[116, 117, 114, 110, 101, 114, 32] } : ByteArray).size + (str D1).size := t1
  have t2 : ¬ 9223372036854775807 < (str X1).size + 1 := by rw [str_size]; omega
  have t2' : ¬ 9223372036854775807 < (str X1).size + ({ data := #[32] } : ByteArray).size := t2
  have t3 : ¬ 9223372036854775807 < (str X2).size + (str D2).size := by rw [str_size, str_size]; omega
  have t4 : ¬ 9223372036854775807 < (str X3).size + 1 := by rw [str_size]; omega
  have t4' : ¬ 9223372036854775807 < (str X3).size + ({ data := #[32] } : ByteArray).size := t4
  have t5 : ¬ 9223372036854775807 < (str X4).size + (str D3).size := by rw [str_size, str_size]; omega
  have t6 : ¬ 9223372036854775807 < (str X5).size + 1 := by rw [str_size]; omega
  have t6' : ¬ 9223372036854775807 < (str X5).size + ({ data := #[10] } : ByteArray).size := t6
  rw [← hH] at hhl ⊢
  rw [hll, hss]
  clear hf hhd hD1 hD2 hD3 hX1 hX2 hX3 hX4 hX5 hX6 hH g1 g2 g3 g4 g5 d1 d2 d3 hT s1
  have HLS := Lib.hid (And.intro hll hss)
  clear hll hss
  go_enter Tryd.func37, Tryd.ntmps37
  go_wp2_with fail
  refine (HV.out l s _ HLS.out.1 HLS.out.2 (by go_simp) (by go_simp) (by go_simp) (by first | omega | (simp only [sz_alloc, sz_set, sz_drew, sz_drewN]; omega) | (simp only [sz_alloc, sz_set, sz_drew, sz_drewN] at *; omega)) (by repeat (first | exact Below.refl _ _ | refine Below.alloc ?_ (by first | omega | (simp only [sz_alloc, sz_set, sz_drew, sz_drewN]; omega) | (simp only [sz_alloc, sz_set, sz_drew, sz_drewN] at *; omega)) _ | refine Below.setCell ?_ (by first | omega | (simp only [sz_alloc, sz_set, sz_drew, sz_drewN]; omega) | (simp only [sz_alloc, sz_set, sz_drew, sz_drewN] at *; omega)) _ | refine Below.drew ?_ | refine below_drewN_ ?_ _))).mono ?_
  rintro e w1 ⟨rfl, hb1⟩
  have HBw1 : Since w w1 := ⟨below_cat (by repeat (first | exact Below.refl _ _ | exact Since.out (by assumption) | refine Below.alloc ?_ (by first | omega | (simp only [sz_alloc, sz_set, sz_drew, sz_drewN]; omega) | (simp only [sz_alloc, sz_set, sz_drew, sz_drewN] at *; omega)) _ | refine Below.setCell ?_ (by first | omega | (simp only [sz_alloc, sz_set, sz_drew, sz_drewN]; omega) | (simp only [sz_alloc, sz_set, sz_drew, sz_drewN] at *; omega)) _ | refine Below.drew ?_ | refine below_drewN_ ?_ _)) hb1 (by first | omega | (simp only [sz_alloc, sz_set, sz_drew, sz_drewN]; omega) | (simp only [sz_alloc, sz_set, sz_drew, sz_drewN] at *; omega))⟩; have hzw1 := hb1.size; (try simp only [sz_alloc, sz_set, sz_drew, sz_drewN] at hzw1); have hcw1k0 := fun o => hb1.cell (p := ⟨w.heap.size, o, none⟩) (by first | omega | (simp only [sz_alloc, sz_set, sz_drew, sz_drewN]; omega) | (simp only [sz_alloc, sz_set, sz_drew, sz_drewN] at *; omega)); have hfw1k0 := fun o => hb1.frozen (p := ⟨w.heap.size, o, none⟩) (by first | omega | (simp only [sz_alloc, sz_set, sz_drew, sz_drewN]; omega) | (simp only [sz_alloc, sz_set, sz_drew, sz_drewN] at *; omega)); have hlw1k0 : w.heap.size < w1.heap.size := (by first | omega | (simp only [sz_alloc, sz_set, sz_drew, sz_drewN]; omega) | (simp only [sz_alloc, sz_set, sz_drew, sz_drewN] at *; omega))
  go_wp2
  refine Held.begin (fun w' => w'.cell? ⟨w.heap.size, 0, none⟩ = some (.int .i64 (l : Int)) ∧ w'.cell? ⟨w.heap.size, 1, none⟩ = some (.int .i64 (s : Int)) ∧ w'.cell? ⟨w.heap.size, 2, none⟩ = some (.slice A T.moves.length c)) 16 (by kernel_rfl) (by (try dsimp only); (first | (go_keep; done) | (and_intros <;> go_simp))) (fun hHeld => ?_); (first | (refine Held.take (i := 0) (v := undef) (by (simp only [List.getElem?_toArray, List.getElem?_cons_succ, List.getElem?_cons_zero]); exact rfl) (by decide) (by kernel_rfl) (by kernel_rfl) (by kernel_rfl) (by kernel_rfl) (by exact fun _ _ _ h => h) (by exact Or.inr ⟨by rfl, rfl⟩) (by assumption) ?_) | (refine Held.take (i := 0) (v := ?_) (by (simp only [List.getElem?_toArray, List.getElem?_cons_succ, List.getElem?_cons_zero]); exact rfl) (by decide) (by kernel_rfl) (by kernel_rfl) (by kernel_rfl) (by kernel_rfl) (by exact fun _ _ _ h => h) (by refine Or.inl ⟨by rfl, ?_⟩; intro wS hSw; (try dsimp only at hSw); go_simp; (try with_reducible rfl)) (by assumption) ?_)); (try simp only [Act.put, List.setIfInBounds_toArray, List.set_cons_zero, List.set_cons_succ]); (first | (refine Held.take (i := 1) (v := undef) (by (simp only [List.getElem?_toArray, List.getElem?_cons_succ, List.getElem?_cons_zero]); exact rfl) (by decide) (by kernel_rfl) (by kernel_rfl) (by kernel_rfl) (by kernel_rfl) (by exact fun _ _ _ h => h) (by exact Or.inr ⟨by rfl, rfl⟩) (by assumption) ?_) | (refine Held.take (i := 1) (v := ?_) (by (simp only [List.getElem?_toArray, List.getElem?_cons_succ, List.getElem?_cons_zero]); exact rfl) (by decide) (by kernel_rfl) (by kernel_rfl) (by kernel_rfl) (by kernel_rfl) (by exact fun _ _ _ h => h) (by refine Or.inl ⟨by rfl, ?_⟩; intro wS hSw; (try dsimp only at hSw); go_simp; (try with_reducible rfl)) (by assumption) ?_)); (try simp only [Act.put, List.setIfInBounds_toArray, List.set_cons_zero, List.set_cons_succ]); (first | (refine Held.take (i := 5) (v := undef) (by (simp only [List.getElem?_toArray, List.getElem?_cons_succ, List.getElem?_cons_zero]); exact rfl) (by decide) (by kernel_rfl) (by kernel_rfl) (by kernel_rfl) (by kernel_rfl) (by exact fun _ _ _ h => h) (by exact Or.inr ⟨by rfl, rfl⟩) (by assumption) ?_) | (refine Held.take (i := 5) (v := ?_) (by (simp only [List.getElem?_toArray, List.getElem?_cons_succ, List.getElem?_cons_zero]); exact rfl) (by decide) (by kernel_rfl) (by kernel_rfl) (by kernel_rfl) (by kernel_rfl) (by exact fun _ _ _ h => h) (by refine Or.inl ⟨by rfl, ?_⟩; intro wS hSw; (try dsimp only at hSw); go_simp; (try with_reducible rfl)) (by assumption) ?_)); (try simp only [Act.put, List.setIfInBounds_toArray, List.set_cons_zero, List.set_cons_succ]); (first | (refine Held.take (i := 6) (v := undef) (by (simp only [List.getElem?_toArray, List.getElem?_cons_succ, List.getElem?_cons_zero]); exact rfl) (by decide) (by kernel_rfl) (by kernel_rfl) (by kernel_rfl) (by kernel_rfl) (by exact fun _ _ _ h => h) (by exact Or.inr ⟨by rfl, rfl⟩) (by assumption) ?_) | (refine Held.take (i := 6) (v := ?_) (by (simp only [List.getElem?_toArray, List.getElem?_cons_succ, List.getElem?_cons_zero]); exact rfl) (by decide) (by kernel_rfl) (by kernel_rfl) (by kernel_rfl) (by kernel_rfl) (by exact fun _ _ _ h => h) (by refine Or.inl ⟨by rfl, ?_⟩; intro wS hSw; (try dsimp only at hSw); go_simp; (try with_reducible rfl)) (by assumption) ?_)); (try simp only [Act.put, List.setIfInBounds_toArray, List.set_cons_zero, List.set_cons_succ]); (first | (refine Held.take (i := 7) (v := undef) (by (simp only [List.getElem?_toArray, List.getElem?_cons_succ, List.getElem?_cons_zero]); exact rfl) (by decide) (by kernel_rfl) (by kernel_rfl) (by kernel_rfl) (by kernel_rfl) (by exact fun _ _ _ h => h) (by exact Or.inr ⟨by rfl, rfl⟩) (by assumption) ?_) | (refine Held.take (i := 7) (v := ?_) (by (simp only [List.getElem?_toArray, List.getElem?_cons_succ, List.getElem?_cons_zero]); exact rfl) (by decide) (by kernel_rfl) (by kernel_rfl) (by kernel_rfl) (by kernel_rfl) (by exact fun _ _ _ h => h) (by refine Or.inl ⟨by rfl, ?_⟩; intro wS hSw; (try dsimp only at hSw); go_simp; (try with_reducible rfl)) (by assumption) ?_)); (try simp only [Act.put, List.setIfInBounds_toArray, List.set_cons_zero, List.set_cons_succ]); (first | (refine Held.take (i := 11) (v := undef) (by (simp only [List.getElem?_toArray, List.getElem?_cons_succ, List.getElem?_cons_zero]); exact rfl) (by decide) (by kernel_rfl) (by kernel_rfl) (by kernel_rfl) (by kernel_rfl) (by exact fun _ _ _ h => h) (by exact Or.inr ⟨by rfl, rfl⟩) (by assumption) ?_) | (refine Held.take (i := 11) (v := ?_) (by (simp only [List.getElem?_toArray, List.getElem?_cons_succ, List.getElem?_cons_zero]); exact rfl) (by decide) (by kernel_rfl) (by kernel_rfl) (by kernel_rfl) (by kernel_rfl) (by exact fun _ _ _ h => h) (by refine Or.inl ⟨by rfl, ?_⟩; intro wS hSw; (try dsimp only at hSw); go_simp; (try with_reducible rfl)) (by assumption) ?_)); (try simp only [Act.put, List.setIfInBounds_toArray, List.set_cons_zero, List.set_cons_succ]); (first | (refine Held.take (i := 12) (v := undef) (by (simp only [List.getElem?_toArray, List.getElem?_cons_succ, List.getElem?_cons_zero]); exact rfl) (by decide) (by kernel_rfl) (by kernel_rfl) (by kernel_rfl) (by kernel_rfl) (by exact fun _ _ _ h => h) (by exact Or.inr ⟨by rfl, rfl⟩) (by assumption) ?_) | (refine Held.take (i := 12) (v := ?_) (by (simp only [List.getElem?_toArray, List.getElem?_cons_succ, List.getElem?_cons_zero]); exact rfl) (by decide) (by kernel_rfl) (by kernel_rfl) (by kernel_rfl) (by kernel_rfl) (by exact fun _ _ _ h => h) (by refine Or.inl ⟨by rfl, ?_⟩; intro wS hSw; (try dsimp only at hSw); go_simp; (try with_reducible rfl)) (by assumption) ?_)); (try simp only [Act.put, List.setIfInBounds_toArray, List.set_cons_zero, List.set_cons_succ]); refine Held.one (i := 2) (by (simp only [List.getElem?_toArray, List.getElem?_cons_succ, List.getElem?_cons_zero]); exact rfl) (by kernel_rfl) (fun K hK => ?_); (go_simp; refine (HD1.out _).mono ?_; rintro e w2 ⟨rfl, hb2⟩; have HBw2 : Since w w2 := ⟨below_cat (by repeat (first | exact Below.refl _ _ | exact Since.out (by assumption) | refine Below.alloc ?_ (by first | omega | (simp only [sz_alloc, sz_set, sz_drew, sz_drewN]; omega) | (simp only [sz_alloc, sz_set, sz_drew, sz_drewN] at *; omega)) _ | refine Below.setCell ?_ (by first | omega | (simp only [sz_alloc, sz_set, sz_drew, sz_drewN]; omega) | (simp only [sz_alloc, sz_set, sz_drew, sz_drewN] at *; omega)) _ | refine Below.drew ?_ | refine below_drewN_ ?_ _)) hb2 (by first | omega | (simp only [sz_alloc, sz_set, sz_drew, sz_drewN]; omega) | (simp only [sz_alloc, sz_set, sz_drew, sz_drewN] at *; omega))⟩; have hzw2 := hb2.size; (try simp only [sz_alloc, sz_set, sz_drew, sz_drewN] at hzw2); have hcw2k0 := fun o => hb2.cell (p := ⟨w.heap.size, o, none⟩) (by first | omega | (simp only [sz_alloc, sz_set, sz_drew, sz_drewN]; omega) | (simp only [sz_alloc, sz_set, sz_drew, sz_drewN] at *; omega)); have hfw2k0 := fun o => hb2.frozen (p := ⟨w.heap.size, o, none⟩) (by first | omega | (simp only [sz_alloc, sz_set, sz_drew, sz_drewN]; omega) | (simp only [sz_alloc, sz_set, sz_drew, sz_drewN] at *; omega)); have hlw2k0 : w.heap.size < w2.heap.size := (by first | omega | (simp only [sz_alloc, sz_set, sz_drew, sz_drewN]; omega) | (simp only [sz_alloc, sz_set, sz_drew, sz_drewN] at *; omega)); go_wp2_with fail); refine hK.out _ _ (by (try dsimp only); (first | (go_keep; done) | (and_intros <;> go_simp))) (fun hHeld => ?_); clear hK K; (try simp only [Act.put, List.setIfInBounds_toArray, List.set_cons_zero, List.set_cons_succ]); (first | (refine Held.take (i := 3) (v := undef) (by (simp only [List.getElem?_toArray, List.getElem?_cons_succ, List.getElem?_cons_zero]); exact rfl) (by decide) (by kernel_rfl) (by kernel_rfl) (by kernel_rfl) (by kernel_rfl) (by exact fun _ _ _ h => h) (by exact Or.inr ⟨by rfl, rfl⟩) (by assumption) ?_) | (refine Held.take (i := 3) (v := ?_) (by (simp only [List.getElem?_toArray, List.getElem?_cons_succ, List.getElem?_cons_zero]); exact rfl) (by decide) (by kernel_rfl) (by kernel_rfl) (by kernel_rfl) (by kernel_rfl) (by exact fun _ _ _ h => h) (by refine Or.inl ⟨by rfl, ?_⟩; intro wS hSw; (try dsimp only at hSw); go_simp; (try with_reducible rfl)) (by assumption) ?_)); (try simp only [Act.put, List.setIfInBounds_toArray, List.set_cons_zero, List.set_cons_succ]); (first | (refine Held.take (i := 4) (v := undef) (by (simp only [List.getElem?_toArray, List.getElem?_cons_succ, List.getElem?_cons_zero]); exact rfl) (by decide) (by kernel_rfl) (by kernel_rfl) (by kernel_rfl) (by kernel_rfl) (by exact fun _ _ _ h => h) (by exact Or.inr ⟨by rfl, rfl⟩) (by assumption) ?_) | (refine Held.take (i := 4) (v := ?_) (by (simp only [List.getElem?_toArray, List.getElem?_cons_succ, List.getElem?_cons_zero]); exact rfl) (by decide) (by kernel_rfl) (by kernel_rfl) (by kernel_rfl) (by kernel_rfl) (by exact fun _ _ _ h => h) (by refine Or.inl ⟨by rfl, ?_⟩; intro wS hSw; (try dsimp only at hSw); go_simp; (try with_reducible rfl)) (by assumption) ?_)); (try simp only [Act.put, List.setIfInBounds_toArray, List.set_cons_zero, List.set_cons_succ]); refine Held.one (i := 8) (by (simp only [List.getElem?_toArray, List.getElem?_cons_succ, List.getElem?_cons_zero]); exact rfl) (by kernel_rfl) (fun K hK => ?_); (go_simp; refine (HD2.out _).mono ?_; rintro e w3 ⟨rfl, hb3⟩; have HBw3 : Since w w3 := ⟨below_cat (by repeat (first | exact Below.refl _ _ | exact Since.out (by assumption) | refine Below.alloc ?_ (by first | omega | (simp only [sz_alloc, sz_set, sz_drew, sz_drewN]; omega) | (simp only [sz_alloc, sz_set, sz_drew, sz_drewN] at *; omega)) _ | refine Below.setCell ?_ (by first | omega | (simp only [sz_alloc, sz_set, sz_drew, sz_drewN]; omega) | (simp only [sz_alloc, sz_set, sz_drew, sz_drewN] at *; omega)) _ | refine Below.drew ?_ | refine below_drewN_ ?_ _)) hb3 (by first | omega | (simp only [sz_alloc, sz_set, sz_drew, sz_drewN]; omega) | (simp only [sz_alloc, sz_set, sz_drew, sz_drewN] at *; omega))⟩; have hzw3 := hb3.size; (try simp only [sz_alloc, sz_set, sz_drew, sz_drewN] at hzw3); have hcw3k0 := fun o => hb3.cell (p := ⟨w.heap.size, o, none⟩) (by first | omega | (simp only [sz_alloc, sz_set, sz_drew, sz_drewN]; omega) | (simp only [sz_alloc, sz_set, sz_drew, sz_drewN] at *; omega)); have hfw3k0 := fun o => hb3.frozen (p := ⟨w.heap.size, o, none⟩) (by first | omega | (simp only [sz_alloc, sz_set, sz_drew, sz_drewN]; omega) | (simp only [sz_alloc, sz_set, sz_drew, sz_drewN] at *; omega)); have hlw3k0 : w.heap.size < w3.heap.size := (by first | omega | (simp only [sz_alloc, sz_set, sz_drew, sz_drewN]; omega) | (simp only [sz_alloc, sz_set, sz_drew, sz_drewN] at *; omega)); go_wp2_with fail); refine hK.out _ _ (by (try dsimp only); (first | (go_keep; done) | (and_intros <;> go_simp))) (fun hHeld => ?_); clear hK K; (try simp only [Act.put, List.setIfInBounds_toArray, List.set_cons_zero, List.set_cons_succ]); (first | (refine Held.take (i := 9) (v := undef) (by (simp only [List.getElem?_toArray, List.getElem?_cons_succ, List.getElem?_cons_zero]); exact rfl) (by decide) (by kernel_rfl) (by kernel_rfl) (by kernel_rfl) (by kernel_rfl) (by exact fun _ _ _ h => h) (by exact Or.inr ⟨by rfl, rfl⟩) (by assumption) ?_) | (refine Held.take (i := 9) (v := ?_) (by (simp only [List.getElem?_toArray, List.getElem?_cons_succ, List.getElem?_cons_zero]); exact rfl) (by decide) (by kernel_rfl) (by kernel_rfl) (by kernel_rfl) (by kernel_rfl) (by exact fun _ _ _ h => h) (by refine Or.inl ⟨by rfl, ?_⟩; intro wS hSw; (try dsimp only at hSw); go_simp; (try with_reducible rfl)) (by assumption) ?_)); (try simp only [Act.put, List.setIfInBounds_toArray, List.set_cons_zero, List.set_cons_succ]); (first | (refine Held.take (i := 10) (v := undef) (by (simp only [List.getElem?_toArray, List.getElem?_cons_succ, List.getElem?_cons_zero]); exact rfl) (by decide) (by kernel_rfl) (by kernel_rfl) (by kernel_rfl) (by kernel_rfl) (by exact fun _ _ _ h => h) (by exact Or.inr ⟨by rfl, rfl⟩) (by assumption) ?_) | (refine Held.take (i := 10) (v := ?_) (by (simp only [List.getElem?_toArray, List.getElem?_cons_succ, List.getElem?_cons_zero]); exact rfl) (by decide) (by kernel_rfl) (by kernel_rfl) (by kernel_rfl) (by kernel_rfl) (by exact fun _ _ _ h => h) (by refine Or.inl ⟨by rfl, ?_⟩; intro wS hSw; (try dsimp only at hSw); go_simp; (try with_reducible rfl)) (by assumption) ?_)); (try simp only [Act.put, List.setIfInBounds_toArray, List.set_cons_zero, List.set_cons_succ]); refine Held.one (i := 13) (by (simp only [List.getElem?_toArray, List.getElem?_cons_succ, List.getElem?_cons_zero]); exact rfl) (by kernel_rfl) (fun K hK => ?_); (go_simp; refine (HD3.out _).mono ?_; rintro e w4 ⟨rfl, hb4⟩; have HBw4 : Since w w4 := ⟨below_cat (by repeat (first | exact Below.refl _ _ | exact Since.out (by assumption) | refine Below.alloc ?_ (by first | omega | (simp only [sz_alloc, sz_set, sz_drew, sz_drewN]; omega) | (simp only [sz_alloc, sz_set, sz_drew, sz_drewN] at *; omega)) _ | refine Below.setCell ?_ (by first | omega | (simp only [sz_alloc, sz_set, sz_drew, sz_drewN]; omega) | (simp only [sz_alloc, sz_set, sz_drew, sz_drewN] at *; omega)) _ | refine Below.drew ?_ | refine below_drewN_ ?_ _)) hb4 (by first | omega | (simp only [sz_alloc, sz_set, sz_drew, sz_drewN]; omega) | (simp only [sz_alloc, sz_set, sz_drew, sz_drewN] at *; omega))⟩; have hzw4 := hb4.size; (try simp only [sz_alloc, sz_set, sz_drew, sz_drewN] at hzw4); have hcw4k0 := fun o => hb4.cell (p := ⟨w.heap.size, o, none⟩) (by first | omega | (simp only [sz_alloc, sz_set, sz_drew, sz_drewN]; omega) | (simp only [sz_alloc, sz_set, sz_drew, sz_drewN] at *; omega)); have hfw4k0 := fun o => hb4.frozen (p := ⟨w.heap.size, o, none⟩) (by first | omega | (simp only [sz_alloc, sz_set, sz_drew, sz_drewN]; omega) | (simp only [sz_alloc, sz_set, sz_drew, sz_drewN] at *; omega)); have hlw4k0 : w.heap.size < w4.heap.size := (by first | omega | (simp only [sz_alloc, sz_set, sz_drew, sz_drewN]; omega) | (simp only [sz_alloc, sz_set, sz_drew, sz_drewN] at *; omega)); go_wp2_with fail); refine hK.out _ _ (by (try dsimp only); (first | (go_keep; done) | (and_intros <;> go_simp))) (fun hHeld => ?_); clear hK K; (try simp only [Act.put, List.setIfInBounds_toArray, List.set_cons_zero, List.set_cons_succ]); (first | (refine Held.take (i := 14) (v := undef) (by (simp only [List.getElem?_toArray, List.getElem?_cons_succ, List.getElem?_cons_zero]); exact rfl) (by decide) (by kernel_rfl) (by kernel_rfl) (by kernel_rfl) (by kernel_rfl) (by exact fun _ _ _ h => h) (by exact Or.inr ⟨by rfl, rfl⟩) (by assumption) ?_) | (refine Held.take (i := 14) (v := ?_) (by (simp only [List.getElem?_toArray, List.getElem?_cons_succ, List.getElem?_cons_zero]); exact rfl) (by decide) (by kernel_rfl) (by kernel_rfl) (by kernel_rfl) (by kernel_rfl) (by exact fun _ _ _ h => h) (by refine Or.inl ⟨by rfl, ?_⟩; intro wS hSw; (try dsimp only at hSw); go_simp; (try with_reducible rfl)) (by assumption) ?_)); (try simp only [Act.put, List.setIfInBounds_toArray, List.set_cons_zero, List.set_cons_succ]); (first | (refine Held.take (i := 15) (v := undef) (by (simp only [List.getElem?_toArray, List.getElem?_cons_succ, List.getElem?_cons_zero]); exact rfl) (by decide) (by kernel_rfl) (by kernel_rfl) (by kernel_rfl) (by kernel_rfl) (by exact fun _ _ _ h => h) (by exact Or.inr ⟨by rfl, rfl⟩) (by assumption) ?_) | (refine Held.take (i := 15) (v := ?_) (by (simp only [List.getElem?_toArray, List.getElem?_cons_succ, List.getElem?_cons_zero]); exact rfl) (by decide) (by kernel_rfl) (by kernel_rfl) (by kernel_rfl) (by kernel_rfl) (by exact fun _ _ _ h => h) (by refine Or.inl ⟨by rfl, ?_⟩; intro wS hSw; (try dsimp only at hSw); go_simp; (try with_reducible rfl)) (by assumption) ?_)); (try simp only [Act.put, List.setIfInBounds_toArray, List.set_cons_zero, List.set_cons_succ]); refine Held.last (i := 16) (by (simp only [List.getElem?_toArray, List.getElem?_cons_succ, List.getElem?_cons_zero]); exact rfl) (by decide) (by kernel_rfl) (fun K hK => ?_); go_simp; refine hK.out _ _ ?_; clear hK K; (try simp only [Act.put, List.setIfInBounds_toArray, List.set_cons_zero, List.set_cons_succ]); refine Held.done (by kernel_rfl) ?_ _
  have e4 : w4.cell? ⟨w.heap.size, 2, none⟩ = some (.slice A T.moves.length c) := by go_simp
  have hlw4 : w.heap.size < w4.heap.size := hlw4k0
  clear a1 a2 a3 a4 a5 a6 t1 t1' t2 t2' t3 t4 t4' t5 t6 t6'
  have HB4 : Since w w4 := HBw4
  go_wp2
  go_loopw [3, 4] (fun t i wr => ∃ k : Nat, k ≤ T.moves.length ∧ i = .int .i64 k ∧ t = .string (str (H ++ rowsT (T.moves.take k))) ∧ Since w4 wr) (fun _ i _ => T.moves.length - (intOf i).toNat)
  case atStart => exact ⟨0, Nat.zero_le _, rfl, by simp [rowsT], ⟨Below.refl _ _⟩⟩
  case round =>
    obtain ⟨k, hk, rfl, rfl, hs⟩ := hrel
    obtain ⟨wo, rfl⟩ : ∃ wo, wo = wr := ⟨_, rfl⟩
    have hzo := hs.out.size
    have hlo : w.heap.size < wo.heap.size := by omega
    have to_ : wo.cell? ⟨w.heap.size, 2, none⟩ = some (.slice A T.moves.length c) := (hs.out.cell (p := ⟨w.heap.size, 2, none⟩) hlw4).trans e4
    by_cases hlt : k < T.moves.length
    · obtain ⟨x, hx⟩ := get_some hlt
      obtain ⟨b', o, P, p, rfl, hbb, cx, hxl, rx⟩ := ((r1.up HB4.out).up hs.out).row hx
      have hxm := HOK.out.mv x (List.mem_of_getElem? hx)
      have hx5 := hxm.1
      have HX := Lib.hid hxm.2
      have HTK := Lib.hid (rowsT_snoc hx)
      obtain ⟨G, hG⟩ : ∃ G, G = H ++ rowsT (T.moves.take k) := ⟨_, rfl⟩
      have hgl : G.length ≤ 652 := by
        have := rowsT_len (xs := T.moves.take k) (fun r hr => HOK.out.mv r (List.mem_of_mem_take hr))
        have := List.length_take_le k T.moves
        rw [hG, List.length_append]
        omega
      obtain ⟨G2, hG2⟩ : ∃ G2, G2 = G ++ stateT := ⟨_, rfl⟩
      have hgl2 : G2.length ≤ 657 := by rw [hG2]; unfold stateT; simp; omega
      have b1 : str G ++ ({ data := #[115, 116, 97, 116, 101] } : ByteArray) = str G2 := by rw [hG2]; exact str_add G [115, 116, 97, 116, 101]
      have b2 : ¬ 9223372036854775807 < (str G).size + 5 := by rw [str_size]; omega
      have b2' : ¬ 9223372036854775807 < (str G).size + ({ data := #[115, 116, 97, 116, 101] } : ByteArray).size := b2
      rw [← hG]
      have HG := Lib.hid (And.intro hG hG2)
      have i2 : (0 : Int) ≤ (k : Int) := by omega
      have i3 : (k : Int) < (T.moves.length : Int) := by omega
      clear hx hG hG2 hxm
      go_wp2
      clear b1 b2 b2'
      go_loopw [3, 5] (fun t i wi => ∃ j : Nat, j ≤ x.length ∧ i = .int .i64 j ∧ t = .string (str (G2 ++ movesT (x.take j))) ∧ Since wo wi) (fun _ i _ => x.length - (intOf i).toNat)
      case atStart => exact ⟨0, Nat.zero_le _, rfl, by simp [movesT], ⟨Below.refl _ _⟩⟩
      case round =>
        obtain ⟨j, hj, rfl, rfl, hs2⟩ := hrel
        obtain ⟨wi, rfl⟩ : ∃ wi, wi = wr := ⟨_, rfl⟩
        have hzi := hs2.out.size
        have hli : w.heap.size < wi.heap.size := by omega
        have hbbi : b' < wi.heap.size := by omega
        have ti := (hs2.out.cell (p := ⟨w.heap.size, 2, none⟩) hlo).trans to_
        have cxi := (hs2.out.cell (p := ⟨b', o + k, none⟩) hbb).trans cx
        obtain ⟨Q, hQ⟩ : ∃ Q, Q = G2 ++ movesT (x.take j) := ⟨_, rfl⟩
        have hql : Q.length ≤ 702 := by
          have := movesT_len (xs := x.take j) (fun y hy => HX.out y (List.mem_of_mem_take hy))
          have := List.length_take_le j x
          rw [hQ, List.length_append]
          omega
        rw [← hQ]
        by_cases hlt2 : j < x.length
        · obtain ⟨y, hy⟩ := get_some hlt2
          obtain ⟨f, g, rfl, hff, c5, c6⟩ := (rx.up hs2.out).pair hy
          have hmv := HX.out y (List.mem_of_getElem? hy)
          have hml := moveT_len hmv
          have HW := Lib.hid (l02Word_spec y hmv wi)
          have HT2 := Lib.hid (movesT_snoc hy)
          obtain ⟨M, hM⟩ : ∃ M, M = moveT y := ⟨_, rfl⟩
          rw [← hM] at HW HT2 hml
          have HQ := Lib.hid hQ
          have j2 : (0 : Int) ≤ (j : Int) := by omega
          have j3 : (j : Int) < (x.length : Int) := by omega
          have e1 : ({ data := #[32] } : ByteArray) ++ str M = str (32 :: M) := str_add [32] M
          have u0 : ¬ 9223372036854775807 < 1 + (str M).size := by rw [str_size]; omega
          have u0' : ¬ 9223372036854775807 < ({ data := #[32] } : ByteArray).size + (str M).size := u0
          have u1 : ¬ 9223372036854775807 < (str Q).size + (str (32 :: M)).size := by rw [str_size, str_size]; simp only [List.length_cons]; omega
          have e2 : str Q ++ str (32 :: M) = str (Q ++ 32 :: M) := str_add _ _
          clear hy hM hQ hmv
          go_wp2_with fail
          refine HW.out.mono ?_
          rintro e w5 ⟨rfl, hb5⟩
          have hz5 := hb5.size
          have HS5 : Since wo w5 := ⟨hs2.out.trans (hb5.mono hzi)⟩
          go_wp2
          go_roundw
          case rel => exact ⟨j + 1, by omega, by go_num, (by rw [HT2.out, ← List.append_assoc, ← HQ.out] <;> rfl), HS5⟩
          case measure => simp [intOf]; omega
        · obtain rfl : j = x.length := by omega
          rw [List.take_length] at hQ
          have HQ := Lib.hid hQ
          have u1 : ¬ 9223372036854775807 < (str Q).size + 1 := by rw [str_size]; omega
          have u1' : ¬ 9223372036854775807 < (str Q).size + ({ data := #[10] } : ByteArray).size := u1
          have e2 : str Q ++ ({ data := #[10] } : ByteArray) = str (Q ++ [10]) := str_add Q [10]
          have HS5 : Since w4 wi := ⟨hs.out.trans (hs2.out.mono hzo)⟩
          clear hQ
          go_wp2
          go_roundw
          case rel => exact ⟨k + 1, by omega, by go_num, (by rw [HTK.out, HQ.out, HG.out.2, HG.out.1]; simp [rowT]), HS5⟩
          case measure => simp [intOf]; omega
    · obtain rfl : k = T.moves.length := by omega
      have HBo : Since w wo := ⟨HB4.out.trans (hs.out.mono HB4.out.size)⟩
      go_wp2
      go_ret
      exact ⟨by rw [List.take_length]; rfl, HBo.out⟩
end Go.Proofs.YtelmooaenodfaaaDoor
