/-
  The text of a reader; the reference's ReaderText. Conditions: those in each statement.
-/
import Derived.Test.YtelmooaenodfaaaDoorTnTxt3
import Derived.Test.YtelmooaenodfaaaDoorROk
set_option linter.unusedVariables false
set_option linter.unusedSimpArgs false
set_option maxRecDepth 100000
set_option maxHeartbeats 1000000
namespace Go.Proofs.YtelmooaenodfaaaDoor
open Go.RowKit

def yesB (b : Bool) : List UInt8 := if b then [121, 101, 115] else [110, 111]
def rowRT (p : Bool × List Int) : List UInt8 := yesB p.1 ++ numsT p.2 ++ [10]
def rowsRT (acc : List Bool) (next : List (List Int)) (k : Nat) : List UInt8 := ((acc.zip next).take k).flatMap rowRT
def readerT : List UInt8 := [114, 101, 97, 100, 101, 114]
def Rr.headT (T : Rr) : List UInt8 := readerT ++ numsT [T.letters, T.accept.length, T.start] ++ [10]
def Rr.text (T : Rr) : List UInt8 := T.headT ++ rowsRT T.accept T.next T.accept.length
def Rr.textC (T : Rr) : List UInt8 := if T.okB = true then T.text else []
theorem rowsRT_zero (a : List Bool) (n : List (List Int)) : rowsRT a n 0 = [] := by simp [rowsRT]
theorem rowsRT_snoc {acc : List Bool} {next : List (List Int)} {k : Nat} {b : Bool} {r : List Int} (h1 : acc[k]? = some b) (h2 : next[k]? = some r) : rowsRT acc next (k + 1) = rowsRT acc next k ++ (yesB b ++ numsT r ++ [10]) := by
  unfold rowsRT
  have h : (acc.zip next)[k]? = some (b, r) := by
    obtain ⟨l1, e1⟩ := List.getElem?_eq_some_iff.1 h1
    obtain ⟨l2, e2⟩ := List.getElem?_eq_some_iff.1 h2
    rw [List.getElem?_eq_getElem (by simp; omega)]
    simp [e1, e2]
  rw [take_snoc h, List.flatMap_append]
  simp [rowRT]
theorem rowsRT_len {acc : List Bool} {next : List (List Int)} (hr : ∀ r ∈ next, r.length ≤ 3 ∧ ∀ x ∈ r, 0 ≤ x ∧ x < 1000000) (k : Nat) : (rowsRT acc next k).length ≤ 28 * k := by
  have key : ∀ (ps : List (Bool × List Int)), (∀ p ∈ ps, p.2.length ≤ 3 ∧ ∀ x ∈ p.2, 0 ≤ x ∧ x < 1000000) → (ps.flatMap rowRT).length ≤ 28 * ps.length := by
    intro ps
    induction ps with
    | nil => intro _; simp
    | cons p ps ih =>
      intro h
      have h1 := h p (List.mem_cons_self ..)
      have h2 := numsT_len h1.2
      have h3 := ih fun q hq => h q (List.mem_cons_of_mem _ hq)
      have hy : (yesB p.1).length ≤ 3 := by unfold yesB; split <;> simp
      have h4 : (rowRT p).length ≤ 28 := by
        unfold rowRT
        simp only [List.length_append, List.length_cons, List.length_nil]
        omega
      rw [List.flatMap_cons, List.length_append, List.length_cons]
      omega
  have := key ((acc.zip next).take k) (fun p hp => hr p.2 (List.of_mem_zip (List.mem_of_mem_take hp)).2)
  have := List.length_take_le k (acc.zip next)
  unfold rowsRT
  omega
structure Rr.TOk (T : Rr) : Prop where
  l1 : 1 ≤ T.letters
  l3 : T.letters ≤ 3
  n1 : 1 ≤ T.accept.length
  n300 : T.accept.length ≤ 300
  s0 : 0 ≤ T.start
  s1 : T.start < T.accept.length
  same : T.next.length = T.accept.length
  row : ∀ r ∈ T.next, r.length ≤ 3 ∧ ∀ x ∈ r, 0 ≤ x ∧ x < 300
theorem Rr.tok_of {T : Rr} (h : T.okB = true) : T.TOk := by
  have OK := Rr.ok_of h
  exact ⟨OK.l1, OK.l3, OK.n1, OK.n300, OK.s0, OK.s1, OK.same, fun r hr => ⟨by have := (OK.row r hr).1; have := OK.l3; omega, fun x hx => by have := (OK.row r hr).2 x hx; have := OK.n300; omega⟩⟩
theorem Rr.TOk.big {T : Rr} (OK : T.TOk) : ∀ r ∈ T.next, r.length ≤ 3 ∧ ∀ x ∈ r, 0 ≤ x ∧ x < 1000000 := fun r hr => ⟨(OK.row r hr).1, fun x hx => by have := (OK.row r hr).2 x hx; omega⟩
theorem headRT_len {T : Rr} (OK : T.TOk) : T.headT.length ≤ 40 := by
  have h := numsT_len (xs := [T.letters, T.accept.length, T.start]) (fun x hx => by
    simp only [List.mem_cons, List.mem_nil_iff, or_false] at hx
    have := OK.l1; have := OK.l3; have := OK.n300; have := OK.s0; have := OK.s1
    rcases hx with rfl | rfl | rfl <;> omega)
  unfold Rr.headT readerT
  simp only [List.length_append, List.length_cons, List.length_nil] at h ⊢
  omega

set_option maxHeartbeats 8000000 in
theorem readerText_spec_yes (A : Option Addr) (c : Nat) (B : Option Addr) (d : Nat) (T : Rr) (w : World) (r1 : RdS w w.heap.size A T.accept) (r2 : RdS w w.heap.size B T.next) (hn : T.tot ≤ 1048576) (hT : T.okB = true) :
    Calls Tryd.prog 33 #[.agg #[.int .i64 T.letters, .int .i64 T.start, .slice A T.accept.length c, .slice B T.next.length d]] w fun e w' => e = .returned (.string (str T.text)) ∧ Below w.heap.size w w' := by
  have OK := Rr.tok_of hT
  have hhl := headRT_len OK
  have HOK := Lib.hid OK
  obtain ⟨l1, l3, n1, n300, s0, s1, hsm, -⟩ := OK
  have HV : Hid (∀ (l s : Int) (W : World), T.letters = l → T.start = s → W.cell? ⟨w.heap.size, 0, none⟩ = some (.int .i64 l) → W.cell? ⟨w.heap.size, 1, none⟩ = some (.int .i64 s) → W.cell? ⟨w.heap.size, 2, none⟩ = some (.slice A T.accept.length c) → W.cell? ⟨w.heap.size, 3, none⟩ = some (.slice B T.next.length d) → w.heap.size < W.heap.size → Below w.heap.size w W → Calls Tryd.prog 55 #[.pointer (some ⟨w.heap.size, 0, none⟩)] W fun e w' => e = .returned (.bool true) ∧ Below W.heap.size W w') := Lib.hid fun l s W e1 e2 q0 q1 q2 q3 hz hb => by
    have := l01Ok w.heap.size A c B d T W (by rw [e1]; exact q0) (by rw [e2]; exact q1) q2 q3 hz (r2.up hb) hn
    rw [hT] at this
    exact this
  have hf : T.text = T.headT ++ rowsRT T.accept T.next T.accept.length := rfl
  rw [hf]
  obtain ⟨l, hll⟩ := Int.eq_ofNat_of_zero_le (show 0 ≤ T.letters by omega)
  obtain ⟨s, hss⟩ := Int.eq_ofNat_of_zero_le s0
  have hhd : T.headT = readerT ++ 32 :: (Lib.decDigits l ++ 32 :: (Lib.decDigits T.accept.length ++ 32 :: (Lib.decDigits s ++ [10]))) := by
    unfold Rr.headT numsT
    rw [hll, hss]
    simp
  obtain ⟨D1, hD1⟩ : ∃ D, D = Lib.decDigits l := ⟨_, rfl⟩
  obtain ⟨D2, hD2⟩ : ∃ D, D = Lib.decDigits T.accept.length := ⟨_, rfl⟩
  obtain ⟨D3, hD3⟩ : ∃ D, D = Lib.decDigits s := ⟨_, rfl⟩
  have HD1 : Hid (∀ W : World, Calls Tryd.prog 79 #[.int .i64 (l : Int)] W fun e w' => e = .returned (.string (str D1)) ∧ Below W.heap.size W w') := Lib.hid fun W => by rw [hD1]; exact decimal_spec l (by omega) W
  have HD2 : Hid (∀ W : World, Calls Tryd.prog 79 #[.int .i64 (T.accept.length : Int)] W fun e w' => e = .returned (.string (str D2)) ∧ Below W.heap.size W w') := Lib.hid fun W => by rw [hD2]; exact decimal_spec _ (by omega) W
  have HD3 : Hid (∀ W : World, Calls Tryd.prog 79 #[.int .i64 (s : Int)] W fun e w' => e = .returned (.string (str D3)) ∧ Below W.heap.size W w') := Lib.hid fun W => by rw [hD3]; exact decimal_spec s (by omega) W
  rw [← hD1, ← hD2, ← hD3] at hhd
  have d1 : D1.length ≤ 7 := by rw [hD1]; exact dec_len (by omega)
  have d2 : D2.length ≤ 7 := by rw [hD2]; exact dec_len (by omega)
  have d3 : D3.length ≤ 7 := by rw [hD3]; exact dec_len (by omega)
  obtain ⟨X1, hX1⟩ : ∃ X, X = [114, 101, 97, 100, 101, 114, 32] ++ D1 := ⟨_, rfl⟩
  obtain ⟨X2, hX2⟩ : ∃ X, X = X1 ++ [32] := ⟨_, rfl⟩
  obtain ⟨X3, hX3⟩ : ∃ X, X = X2 ++ D2 := ⟨_, rfl⟩
  obtain ⟨X4, hX4⟩ : ∃ X, X = X3 ++ [32] := ⟨_, rfl⟩
  obtain ⟨X5, hX5⟩ : ∃ X, X = X4 ++ D3 := ⟨_, rfl⟩
  have hX6 : X5 ++ [10] = T.headT := by rw [hhd, hX5, hX4, hX3, hX2, hX1]; simp [readerT]
  have g1 : X1.length ≤ 14 := by rw [hX1]; simp; omega
  have g2 : X2.length ≤ 15 := by rw [hX2]; simp; omega
  have g3 : X3.length ≤ 22 := by rw [hX3]; simp; omega
  have g4 : X4.length ≤ 23 := by rw [hX4]; simp; omega
  have g5 : X5.length ≤ 30 := by rw [hX5]; simp; omega
  obtain ⟨H, hH⟩ : ∃ H, H = T.headT := ⟨_, rfl⟩
  have a1 : ({ data := #[114, 101, 97, 100, 101, 114, 32] } : ByteArray) ++ str D1 = str X1 := by rw [hX1]; exact str_add [114, 101, 97, 100, 101, 114, 32] D1
  have a2 : str X1 ++ ({ data := #[32] } : ByteArray) = str X2 := by rw [hX2]; exact str_add X1 [32]
  have a3 : str X2 ++ str D2 = str X3 := by rw [hX3]; exact str_add _ _
  have a4 : str X3 ++ ({ data := #[32] } : ByteArray) = str X4 := by rw [hX4]; exact str_add X3 [32]
  have a5 : str X4 ++ str D3 = str X5 := by rw [hX5]; exact str_add _ _
  have a6 : str X5 ++ ({ data := #[10] } : ByteArray) = str H := by rw [hH, ← hX6]; exact str_add X5 [10]
  have t1 : ¬ 9223372036854775807 < 7 + (str D1).size := by rw [str_size]; omega
  have t1' : ¬ 9223372036854775807 < ({ data := #[114, 101, 97, 100, 101, 114, 32] } : ByteArray).size + (str D1).size := t1
  have t2 : ¬ 9223372036854775807 < (str X1).size + 1 := by rw [str_size]; omega
  have t2' : ¬ 9223372036854775807 < (str X1).size + ({ data := #[32] } : ByteArray).size := t2
  have t3 : ¬ 9223372036854775807 < (str X2).size + (str D2).size := by rw [str_size, str_size]; omega
  have t4 : ¬ 9223372036854775807 < (str X3).size + 1 := by rw [str_size]; omega
  have t4' : ¬ 9223372036854775807 < (str X3).size + ({ data := #[32] } : ByteArray).size := t4
  have t5 : ¬ 9223372036854775807 < (str X4).size + (str D3).size := by rw [str_size, str_size]; omega
  have t6 : ¬ 9223372036854775807 < (str X5).size + 1 := by rw [str_size]; omega
  have t6' : ¬ 9223372036854775807 < (str X5).size + ({ data := #[10] } : ByteArray).size := t6
  rw [← hH] at hhl ⊢
  rw [hll, hss]
  have HSM := Lib.hid hsm
  clear hf hhd hD1 hD2 hD3 hX1 hX2 hX3 hX4 hX5 hX6 hH g1 g2 g3 g4 g5 d1 d2 d3 hT s1 hsm
  have HLS := Lib.hid (And.intro hll hss)
  clear hll hss
  go_enter Tryd.func33, Tryd.ntmps33
  go_wp2_with fail
  refine (HV.out l s _ HLS.out.1 HLS.out.2 (by go_simp) (by go_simp) (by go_simp) (by go_simp) (by first | omega | (simp only [sz_alloc, sz_set, sz_drew, sz_drewN]; omega) | (simp only [sz_alloc, sz_set, sz_drew, sz_drewN] at *; omega)) (by repeat (first | exact Below.refl _ _ | refine Below.alloc ?_ (by first | omega | (simp only [sz_alloc, sz_set, sz_drew, sz_drewN]; omega) | (simp only [sz_alloc, sz_set, sz_drew, sz_drewN] at *; omega)) _ | refine Below.setCell ?_ (by first | omega | (simp only [sz_alloc, sz_set, sz_drew, sz_drewN]; omega) | (simp only [sz_alloc, sz_set, sz_drew, sz_drewN] at *; omega)) _ | refine Below.drew ?_ | refine below_drewN_ ?_ _))).mono ?_
  rintro e w1 ⟨rfl, hb1⟩
  have HBw1 : Since w w1 := ⟨below_cat (by repeat (first | exact Below.refl _ _ | exact Since.out (by assumption) | refine Below.alloc ?_ (by first | omega | (simp only [sz_alloc, sz_set, sz_drew, sz_drewN]; omega) | (simp only [sz_alloc, sz_set, sz_drew, sz_drewN] at *; omega)) _ | refine Below.setCell ?_ (by first | omega | (simp only [sz_alloc, sz_set, sz_drew, sz_drewN]; omega) | (simp only [sz_alloc, sz_set, sz_drew, sz_drewN] at *; omega)) _ | refine Below.drew ?_ | refine below_drewN_ ?_ _)) hb1 (by first | omega | (simp only [sz_alloc, sz_set, sz_drew, sz_drewN]; omega) | (simp only [sz_alloc, sz_set, sz_drew, sz_drewN] at *; omega))⟩; have hzw1 := hb1.size; (try simp only [sz_alloc, sz_set, sz_drew, sz_drewN] at hzw1); have hcw1k0 := fun o => hb1.cell (p := ⟨w.heap.size, o, none⟩) (by first | omega | (simp only [sz_alloc, sz_set, sz_drew, sz_drewN]; omega) | (simp only [sz_alloc, sz_set, sz_drew, sz_drewN] at *; omega)); have hfw1k0 := fun o => hb1.frozen (p := ⟨w.heap.size, o, none⟩) (by first | omega | (simp only [sz_alloc, sz_set, sz_drew, sz_drewN]; omega) | (simp only [sz_alloc, sz_set, sz_drew, sz_drewN] at *; omega)); have hlw1k0 : w.heap.size < w1.heap.size := (by first | omega | (simp only [sz_alloc, sz_set, sz_drew, sz_drewN]; omega) | (simp only [sz_alloc, sz_set, sz_drew, sz_drewN] at *; omega))
  go_wp2
  refine Held.begin (fun w' => w'.cell? ⟨w.heap.size, 0, none⟩ = some (.int .i64 (l : Int)) ∧ w'.cell? ⟨w.heap.size, 1, none⟩ = some (.int .i64 (s : Int)) ∧ w'.cell? ⟨w.heap.size, 2, none⟩ = some (.slice A T.accept.length c) ∧ w'.cell? ⟨w.heap.size, 3, none⟩ = some (.slice B T.next.length d)) 16 (by kernel_rfl) (by (try dsimp only); (first | (go_keep; done) | (and_intros <;> go_simp))) (fun hHeld => ?_); (first | (refine Held.take (i := 0) (v := undef) (by (simp only [List.getElem?_toArray, List.getElem?_cons_succ, List.getElem?_cons_zero]); exact rfl) (by decide) (by kernel_rfl) (by kernel_rfl) (by kernel_rfl) (by kernel_rfl) (by exact fun _ _ _ h => h) (by exact Or.inr ⟨by rfl, rfl⟩) (by assumption) ?_) | (refine Held.take (i := 0) (v := ?_) (by (simp only [List.getElem?_toArray, List.getElem?_cons_succ, List.getElem?_cons_zero]); exact rfl) (by decide) (by kernel_rfl) (by kernel_rfl) (by kernel_rfl) (by kernel_rfl) (by exact fun _ _ _ h => h) (by refine Or.inl ⟨by rfl, ?_⟩; intro wS hSw; (try dsimp only at hSw); go_simp; (try with_reducible rfl)) (by assumption) ?_)); (try simp only [Act.put, List.setIfInBounds_toArray, List.set_cons_zero, List.set_cons_succ]); (first | (refine Held.take (i := 1) (v := undef) (by (simp only [List.getElem?_toArray, List.getElem?_cons_succ, List.getElem?_cons_zero]); exact rfl) (by decide) (by kernel_rfl) (by kernel_rfl) (by kernel_rfl) (by kernel_rfl) (by exact fun _ _ _ h => h) (by exact Or.inr ⟨by rfl, rfl⟩) (by assumption) ?_) | (refine Held.take (i := 1) (v := ?_) (by (simp only [List.getElem?_toArray, List.getElem?_cons_succ, List.getElem?_cons_zero]); exact rfl) (by decide) (by kernel_rfl) (by kernel_rfl) (by kernel_rfl) (by kernel_rfl) (by exact fun _ _ _ h => h) (by refine Or.inl ⟨by rfl, ?_⟩; intro wS hSw; (try dsimp only at hSw); go_simp; (try with_reducible rfl)) (by assumption) ?_)); (try simp only [Act.put, List.setIfInBounds_toArray, List.set_cons_zero, List.set_cons_succ]); (first | (refine Held.take (i := 5) (v := undef) (by (simp only [List.getElem?_toArray, List.getElem?_cons_succ, List.getElem?_cons_zero]); exact rfl) (by decide) (by kernel_rfl) (by kernel_rfl) (by kernel_rfl) (by kernel_rfl) (by exact fun _ _ _ h => h) (by exact Or.inr ⟨by rfl, rfl⟩) (by assumption) ?_) | (refine Held.take (i := 5) (v := ?_) (by (simp only [List.getElem?_toArray, List.getElem?_cons_succ, List.getElem?_cons_zero]); exact rfl) (by decide) (by kernel_rfl) (by kernel_rfl) (by kernel_rfl) (by kernel_rfl) (by exact fun _ _ _ h => h) (by refine Or.inl ⟨by rfl, ?_⟩; intro wS hSw; (try dsimp only at hSw); go_simp; (try with_reducible rfl)) (by assumption) ?_)); (try simp only [Act.put, List.setIfInBounds_toArray, List.set_cons_zero, List.set_cons_succ]); (first | (refine Held.take (i := 6) (v := undef) (by (simp only [List.getElem?_toArray, List.getElem?_cons_succ, List.getElem?_cons_zero]); exact rfl) (by decide) (by kernel_rfl) (by kernel_rfl) (by kernel_rfl) (by kernel_rfl) (by exact fun _ _ _ h => h) (by exact Or.inr ⟨by rfl, rfl⟩) (by assumption) ?_) | (refine Held.take (i := 6) (v := ?_) (by (simp only [List.getElem?_toArray, List.getElem?_cons_succ, List.getElem?_cons_zero]); exact rfl) (by decide) (by kernel_rfl) (by kernel_rfl) (by kernel_rfl) (by kernel_rfl) (by exact fun _ _ _ h => h) (by refine Or.inl ⟨by rfl, ?_⟩; intro wS hSw; (try dsimp only at hSw); go_simp; (try with_reducible rfl)) (by assumption) ?_)); (try simp only [Act.put, List.setIfInBounds_toArray, List.set_cons_zero, List.set_cons_succ]); (first | (refine Held.take (i := 7) (v := undef) (by (simp only [List.getElem?_toArray, List.getElem?_cons_succ, List.getElem?_cons_zero]); exact rfl) (by decide) (by kernel_rfl) (by kernel_rfl) (by kernel_rfl) (by kernel_rfl) (by exact fun _ _ _ h => h) (by exact Or.inr ⟨by rfl, rfl⟩) (by assumption) ?_) | (refine Held.take (i := 7) (v := ?_) (by (simp only [List.getElem?_toArray, List.getElem?_cons_succ, List.getElem?_cons_zero]); exact rfl) (by decide) (by kernel_rfl) (by kernel_rfl) (by kernel_rfl) (by kernel_rfl) (by exact fun _ _ _ h => h) (by refine Or.inl ⟨by rfl, ?_⟩; intro wS hSw; (try dsimp only at hSw); go_simp; (try with_reducible rfl)) (by assumption) ?_)); (try simp only [Act.put, List.setIfInBounds_toArray, List.set_cons_zero, List.set_cons_succ]); (first | (refine Held.take (i := 11) (v := undef) (by (simp only [List.getElem?_toArray, List.getElem?_cons_succ, List.getElem?_cons_zero]); exact rfl) (by decide) (by kernel_rfl) (by kernel_rfl) (by kernel_rfl) (by kernel_rfl) (by exact fun _ _ _ h => h) (by exact Or.inr ⟨by rfl, rfl⟩) (by assumption) ?_) | (refine Held.take (i := 11) (v := ?_) (by (simp only [List.getElem?_toArray, List.getElem?_cons_succ, List.getElem?_cons_zero]); exact rfl) (by decide) (by kernel_rfl) (by kernel_rfl) (by kernel_rfl) (by kernel_rfl) (by exact fun _ _ _ h => h) (by refine Or.inl ⟨by rfl, ?_⟩; intro wS hSw; (try dsimp only at hSw); go_simp; (try with_reducible rfl)) (by assumption) ?_)); (try simp only [Act.put, List.setIfInBounds_toArray, List.set_cons_zero, List.set_cons_succ]); (first | (refine Held.take (i := 12) (v := undef) (by (simp only [List.getElem?_toArray, List.getElem?_cons_succ, List.getElem?_cons_zero]); exact rfl) (by decide) (by kernel_rfl) (by kernel_rfl) (by kernel_rfl) (by kernel_rfl) (by exact fun _ _ _ h => h) (by exact Or.inr ⟨by rfl, rfl⟩) (by assumption) ?_) | (refine Held.take (i := 12) (v := ?_) (by (simp only [List.getElem?_toArray, List.getElem?_cons_succ, List.getElem?_cons_zero]); exact rfl) (by decide) (by kernel_rfl) (by kernel_rfl) (by kernel_rfl) (by kernel_rfl) (by exact fun _ _ _ h => h) (by refine Or.inl ⟨by rfl, ?_⟩; intro wS hSw; (try dsimp only at hSw); go_simp; (try with_reducible rfl)) (by assumption) ?_)); (try simp only [Act.put, List.setIfInBounds_toArray, List.set_cons_zero, List.set_cons_succ]); refine Held.one (i := 2) (by (simp only [List.getElem?_toArray, List.getElem?_cons_succ, List.getElem?_cons_zero]); exact rfl) (by kernel_rfl) (fun K hK => ?_); (go_simp; refine (HD1.out _).mono ?_; rintro e w2 ⟨rfl, hb2⟩; have HBw2 : Since w w2 := ⟨below_cat (by repeat (first | exact Below.refl _ _ | exact Since.out (by assumption) | refine Below.alloc ?_ (by first | omega | (simp only [sz_alloc, sz_set, sz_drew, sz_drewN]; omega) | (simp only [sz_alloc, sz_set, sz_drew, sz_drewN] at *; omega)) _ | refine Below.setCell ?_ (by first | omega | (simp only [sz_alloc, sz_set, sz_drew, sz_drewN]; omega) | (simp only [sz_alloc, sz_set, sz_drew, sz_drewN] at *; omega)) _ | refine Below.drew ?_ | refine below_drewN_ ?_ _)) hb2 (by first | omega | (simp only [sz_alloc, sz_set, sz_drew, sz_drewN]; omega) | (simp only [sz_alloc, sz_set, sz_drew, sz_drewN] at *; omega))⟩; have hzw2 := hb2.size; (try simp only [sz_alloc, sz_set, sz_drew, sz_drewN] at hzw2); have hcw2k0 := fun o => hb2.cell (p := ⟨w.heap.size, o, none⟩) (by first | omega | (simp only [sz_alloc, sz_set, sz_drew, sz_drewN]; omega) | (simp only [sz_alloc, sz_set, sz_drew, sz_drewN] at *; omega)); have hfw2k0 := fun o => hb2.frozen (p := ⟨w.heap.size, o, none⟩) (by first | omega | (simp only [sz_alloc, sz_set, sz_drew, sz_drewN]; omega) | (simp only [sz_alloc, sz_set, sz_drew, sz_drewN] at *; omega)); have hlw2k0 : w.heap.size < w2.heap.size := (by first | omega | (simp only [sz_alloc, sz_set, sz_drew, sz_drewN]; omega) | (simp only [sz_alloc, sz_set, sz_drew, sz_drewN] at *; omega)); go_wp2_with fail); refine hK.out _ _ (by (try dsimp only); (first | (go_keep; done) | (and_intros <;> go_simp))) (fun hHeld => ?_); clear hK K; (try simp only [Act.put, List.setIfInBounds_toArray, List.set_cons_zero, List.set_cons_succ]); (first | (refine Held.take (i := 3) (v := undef) (by (simp only [List.getElem?_toArray, List.getElem?_cons_succ, List.getElem?_cons_zero]); exact rfl) (by decide) (by kernel_rfl) (by kernel_rfl) (by kernel_rfl) (by kernel_rfl) (by exact fun _ _ _ h => h) (by exact Or.inr ⟨by rfl, rfl⟩) (by assumption) ?_) | (refine Held.take (i := 3) (v := ?_) (by (simp only [List.getElem?_toArray, List.getElem?_cons_succ, List.getElem?_cons_zero]); exact rfl) (by decide) (by kernel_rfl) (by kernel_rfl) (by kernel_rfl) (by kernel_rfl) (by exact fun _ _ _ h => h) (by refine Or.inl ⟨by rfl, ?_⟩; intro wS hSw; (try dsimp only at hSw); go_simp; (try with_reducible rfl)) (by assumption) ?_)); (try simp only [Act.put, List.setIfInBounds_toArray, List.set_cons_zero, List.set_cons_succ]); (first | (refine Held.take (i := 4) (v := undef) (by (simp only [List.getElem?_toArray, List.getElem?_cons_succ, List.getElem?_cons_zero]); exact rfl) (by decide) (by kernel_rfl) (by kernel_rfl) (by kernel_rfl) (by kernel_rfl) (by exact fun _ _ _ h => h) (by exact Or.inr ⟨by rfl, rfl⟩) (by assumption) ?_) | (refine Held.take (i := 4) (v := ?_) (by (simp only [List.getElem?_toArray, List.getElem?_cons_succ, List.getElem?_cons_zero]); exact rfl) (by decide) (by kernel_rfl) (by kernel_rfl) (by kernel_rfl) (by kernel_rfl) (by exact fun _ _ _ h => h) (by refine Or.inl ⟨by rfl, ?_⟩; intro wS hSw; (try dsimp only at hSw); go_simp; (try with_reducible rfl)) (by assumption) ?_)); (try simp only [Act.put, List.setIfInBounds_toArray, List.set_cons_zero, List.set_cons_succ]); refine Held.one (i := 8) (by (simp only [List.getElem?_toArray, List.getElem?_cons_succ, List.getElem?_cons_zero]); exact rfl) (by kernel_rfl) (fun K hK => ?_); (go_simp; refine (HD2.out _).mono ?_; rintro e w3 ⟨rfl, hb3⟩; have HBw3 : Since w w3 := ⟨below_cat (by repeat (first | exact Below.refl _ _ | exact Since.out (by assumption) | refine Below.alloc ?_ (by first | omega | (simp only [sz_alloc, sz_set, sz_drew, sz_drewN]; omega) | (simp only [sz_alloc, sz_set, sz_drew, sz_drewN] at *; omega)) _ | refine Below.setCell ?_ (by first | omega | (simp only [sz_alloc, sz_set, sz_drew, sz_drewN]; omega) | (simp only [sz_alloc, sz_set, sz_drew, sz_drewN] at *; omega)) _ | refine Below.drew ?_ | refine below_drewN_ ?_ _)) hb3 (by first | omega | (simp only [sz_alloc, sz_set, sz_drew, sz_drewN]; omega) | (simp only [sz_alloc, sz_set, sz_drew, sz_drewN] at *; omega))⟩; have hzw3 := hb3.size; (try simp only [sz_alloc, sz_set, sz_drew, sz_drewN] at hzw3); have hcw3k0 := fun o => hb3.cell (p := ⟨w.heap.size, o, none⟩) (by first | omega | (simp only [sz_alloc, sz_set, sz_drew, sz_drewN]; omega) | (simp only [sz_alloc, sz_set, sz_drew, sz_drewN] at *; omega)); have hfw3k0 := fun o => hb3.frozen (p := ⟨w.heap.size, o, none⟩) (by first | omega | (simp only [sz_alloc, sz_set, sz_drew, sz_drewN]; omega) | (simp only [sz_alloc, sz_set, sz_drew, sz_drewN] at *; omega)); have hlw3k0 : w.heap.size < w3.heap.size := (by first | omega | (simp only [sz_alloc, sz_set, sz_drew, sz_drewN]; omega) | (simp only [sz_alloc, sz_set, sz_drew, sz_drewN] at *; omega)); go_wp2_with fail); refine hK.out _ _ (by (try dsimp only); (first | (go_keep; done) | (and_intros <;> go_simp))) (fun hHeld => ?_); clear hK K; (try simp only [Act.put, List.setIfInBounds_toArray, List.set_cons_zero, List.set_cons_succ]); (first | (refine Held.take (i := 9) (v := undef) (by (simp only [List.getElem?_toArray, List.getElem?_cons_succ, List.getElem?_cons_zero]); exact rfl) (by decide) (by kernel_rfl) (by kernel_rfl) (by kernel_rfl) (by kernel_rfl) (by exact fun _ _ _ h => h) (by exact Or.inr ⟨by rfl, rfl⟩) (by assumption) ?_) | (refine Held.take (i := 9) (v := ?_) (by (simp only [List.getElem?_toArray, List.getElem?_cons_succ, List.getElem?_cons_zero]); exact rfl) (by decide) (by kernel_rfl) (by kernel_rfl) (by kernel_rfl) (by kernel_rfl) (by exact fun _ _ _ h => h) (by refine Or.inl ⟨by rfl, ?_⟩; intro wS hSw; (try dsimp only at hSw); go_simp; (try with_reducible rfl)) (by assumption) ?_)); (try simp only [Act.put, List.setIfInBounds_toArray, List.set_cons_zero, List.set_cons_succ]); (first | (refine Held.take (i := 10) (v := undef) (by (simp only [List.getElem?_toArray, List.getElem?_cons_succ, List.getElem?_cons_zero]); exact rfl) (by decide) (by kernel_rfl) (by kernel_rfl) (by kernel_rfl) (by kernel_rfl) (by exact fun _ _ _ h => h) (by exact Or.inr ⟨by rfl, rfl⟩) (by assumption) ?_) | (refine Held.take (i := 10) (v := ?_) (by (simp only [List.getElem?_toArray, List.getElem?_cons_succ, List.getElem?_cons_zero]); exact rfl) (by decide) (by kernel_rfl) (by kernel_rfl) (by kernel_rfl) (by kernel_rfl) (by exact fun _ _ _ h => h) (by refine Or.inl ⟨by rfl, ?_⟩; intro wS hSw; (try dsimp only at hSw); go_simp; (try with_reducible rfl)) (by assumption) ?_)); (try simp only [Act.put, List.setIfInBounds_toArray, List.set_cons_zero, List.set_cons_succ]); refine Held.one (i := 13) (by (simp only [List.getElem?_toArray, List.getElem?_cons_succ, List.getElem?_cons_zero]); exact rfl) (by kernel_rfl) (fun K hK => ?_); (go_simp; refine (HD3.out _).mono ?_; rintro e w4 ⟨rfl, hb4⟩; have HBw4 : Since w w4 := ⟨below_cat (by repeat (first | exact Below.refl _ _ | exact Since.out (by assumption) | refine Below.alloc ?_ (by first | omega | (simp only [sz_alloc, sz_set, sz_drew, sz_drewN]; omega) | (simp only [sz_alloc, sz_set, sz_drew, sz_drewN] at *; omega)) _ | refine Below.setCell ?_ (by first | omega | (simp only [sz_alloc, sz_set, sz_drew, sz_drewN]; omega) | (simp only [sz_alloc, sz_set, sz_drew, sz_drewN] at *; omega)) _ | refine Below.drew ?_ | refine below_drewN_ ?_ _)) hb4 (by first | omega | (simp only [sz_alloc, sz_set, sz_drew, sz_drewN]; omega) | (simp only [sz_alloc, sz_set, sz_drew, sz_drewN] at *; omega))⟩; have hzw4 := hb4.size; (try simp only [sz_alloc, sz_set, sz_drew, sz_drewN] at hzw4); have hcw4k0 := fun o => hb4.cell (p := ⟨w.heap.size, o, none⟩) (by first | omega | (simp only [sz_alloc, sz_set, sz_drew, sz_drewN]; omega) | (simp only [sz_alloc, sz_set, sz_drew, sz_drewN] at *; omega)); have hfw4k0 := fun o => hb4.frozen (p := ⟨w.heap.size, o, none⟩) (by first | omega | (simp only [sz_alloc, sz_set, sz_drew, sz_drewN]; omega) | (simp only [sz_alloc, sz_set, sz_drew, sz_drewN] at *; omega)); have hlw4k0 : w.heap.size < w4.heap.size := (by first | omega | (simp only [sz_alloc, sz_set, sz_drew, sz_drewN]; omega) | (simp only [sz_alloc, sz_set, sz_drew, sz_drewN] at *; omega)); go_wp2_with fail); refine hK.out _ _ (by (try dsimp only); (first | (go_keep; done) | (and_intros <;> go_simp))) (fun hHeld => ?_); clear hK K; (try simp only [Act.put, List.setIfInBounds_toArray, List.set_cons_zero, List.set_cons_succ]); (first | (refine Held.take (i := 14) (v := undef) (by (simp only [List.getElem?_toArray, List.getElem?_cons_succ, List.getElem?_cons_zero]); exact rfl) (by decide) (by kernel_rfl) (by kernel_rfl) (by kernel_rfl) (by kernel_rfl) (by exact fun _ _ _ h => h) (by exact Or.inr ⟨by rfl, rfl⟩) (by assumption) ?_) | (refine Held.take (i := 14) (v := ?_) (by (simp only [List.getElem?_toArray, List.getElem?_cons_succ, List.getElem?_cons_zero]); exact rfl) (by decide) (by kernel_rfl) (by kernel_rfl) (by kernel_rfl) (by kernel_rfl) (by exact fun _ _ _ h => h) (by refine Or.inl ⟨by rfl, ?_⟩; intro wS hSw; (try dsimp only at hSw); go_simp; (try with_reducible rfl)) (by assumption) ?_)); (try simp only [Act.put, List.setIfInBounds_toArray, List.set_cons_zero, List.set_cons_succ]); (first | (refine Held.take (i := 15) (v := undef) (by (simp only [List.getElem?_toArray, List.getElem?_cons_succ, List.getElem?_cons_zero]); exact rfl) (by decide) (by kernel_rfl) (by kernel_rfl) (by kernel_rfl) (by kernel_rfl) (by exact fun _ _ _ h => h) (by exact Or.inr ⟨by rfl, rfl⟩) (by assumption) ?_) | (refine Held.take (i := 15) (v := ?_) (by (simp only [List.getElem?_toArray, List.getElem?_cons_succ, List.getElem?_cons_zero]); exact rfl) (by decide) (by kernel_rfl) (by kernel_rfl) (by kernel_rfl) (by kernel_rfl) (by exact fun _ _ _ h => h) (by refine Or.inl ⟨by rfl, ?_⟩; intro wS hSw; (try dsimp only at hSw); go_simp; (try with_reducible rfl)) (by assumption) ?_)); (try simp only [Act.put, List.setIfInBounds_toArray, List.set_cons_zero, List.set_cons_succ]); refine Held.last (i := 16) (by (simp only [List.getElem?_toArray, List.getElem?_cons_succ, List.getElem?_cons_zero]); exact rfl) (by decide) (by kernel_rfl) (fun K hK => ?_); go_simp; refine hK.out _ _ ?_; clear hK K; (try simp only [Act.put, List.setIfInBounds_toArray, List.set_cons_zero, List.set_cons_succ]); refine Held.done (by kernel_rfl) ?_ _
  have e4 : w4.cell? ⟨w.heap.size, 2, none⟩ = some (.slice A T.accept.length c) := by go_simp
  have e5 : w4.cell? ⟨w.heap.size, 3, none⟩ = some (.slice B T.next.length d) := by go_simp
  have hlw4 : w.heap.size < w4.heap.size := hlw4k0
  clear a1 a2 a3 a4 a5 a6 t1 t1' t2 t2' t3 t4 t4' t5 t6 t6'
  have HB4 : Since w w4 := HBw4
  go_wp2
  go_loopw [3, 4] (fun t i wr => ∃ k : Nat, k ≤ T.accept.length ∧ i = .int .i64 k ∧ t = .string (str (H ++ rowsRT T.accept T.next k)) ∧ Since w4 wr) (fun _ i _ => T.accept.length - (intOf i).toNat)
  case atStart => exact ⟨0, Nat.zero_le _, rfl, by rw [rowsRT_zero, List.append_nil], ⟨Below.refl _ _⟩⟩
  case round =>
    obtain ⟨k, hk, rfl, rfl, hs⟩ := hrel
    obtain ⟨wo, rfl⟩ : ∃ wo, wo = wr := ⟨_, rfl⟩
    have hzo := hs.out.size
    have hlo : w.heap.size < wo.heap.size := by omega
    have to_ : wo.cell? ⟨w.heap.size, 2, none⟩ = some (.slice A T.accept.length c) := (hs.out.cell (p := ⟨w.heap.size, 2, none⟩) hlw4).trans e4
    have tn_ : wo.cell? ⟨w.heap.size, 3, none⟩ = some (.slice B T.next.length d) := (hs.out.cell (p := ⟨w.heap.size, 3, none⟩) hlw4).trans e5
    by_cases hlt : k < T.accept.length
    · obtain ⟨x, hx⟩ := get_some (xs := T.next) (k := k) (by have := HSM.out; omega)
      obtain ⟨bb, hbb⟩ := get_some hlt
      obtain ⟨b', o, P, p, rfl, hbx, cx, hxl, rx⟩ := ((r2.up HB4.out).up hs.out).row hx
      obtain ⟨f', f, rfl, hfx, cb⟩ := ((r1.up HB4.out).up hs.out).bool hbb
      have hxm := HOK.out.big x (List.mem_of_getElem? hx)
      have hx5 := hxm.1
      have HX := Lib.hid hxm.2
      have HTK := Lib.hid (rowsRT_snoc hbb hx)
      obtain ⟨G, hG⟩ : ∃ G, G = H ++ rowsRT T.accept T.next k := ⟨_, rfl⟩
      have hgl : G.length ≤ 8440 := by
        have := rowsRT_len (acc := T.accept) HOK.out.big k
        rw [hG, List.length_append]
        omega
      obtain ⟨G2, hG2⟩ : ∃ G2, G2 = G ++ yesB bb := ⟨_, rfl⟩
      have hgl2 : G2.length ≤ 8443 := by rw [hG2]; unfold yesB; cases bb <;> simp <;> omega
      rw [← hG]
      have HG := Lib.hid (And.intro hG hG2)
      have i2 : (0 : Int) ≤ (k : Int) := by omega
      have i3 : (k : Int) < (T.accept.length : Int) := by omega
      have i4 : (k : Int) < (T.next.length : Int) := by have := HSM.out; omega
      clear hx hbb hG hxm
      cases bb
      · have b1 : str G ++ ({ data := #[110, 111] } : ByteArray) = str G2 := by rw [hG2]; exact str_add G [110, 111]
        have b2 : ¬ 9223372036854775807 < (str G).size + 2 := by rw [str_size]; omega
        have b2' : ¬ 9223372036854775807 < (str G).size + ({ data := #[110, 111] } : ByteArray).size := b2
        clear hG2
        go_wp2
        clear b1 b2 b2'
        go_loopw [3, 5] (fun t i wi => ∃ j : Nat, j ≤ x.length ∧ i = .int .i64 j ∧ t = .string (str (G2 ++ numsT (x.take j))) ∧ Since wo wi) (fun _ i _ => x.length - (intOf i).toNat)
        case atStart => exact ⟨0, Nat.zero_le _, rfl, by simp [numsT], ⟨Below.refl _ _⟩⟩
        case round =>
          obtain ⟨j, hj, rfl, rfl, hs2⟩ := hrel
          obtain ⟨wi, rfl⟩ : ∃ wi, wi = wr := ⟨_, rfl⟩
          have hzi := hs2.out.size
          have hli : w.heap.size < wi.heap.size := by omega
          have hbbi : b' < wi.heap.size := by omega
          have ti := (hs2.out.cell (p := ⟨w.heap.size, 3, none⟩) hlo).trans tn_
          have cxi := (hs2.out.cell (p := ⟨b', o + k, none⟩) hbx).trans cx
          obtain ⟨Q, hQ⟩ : ∃ Q, Q = G2 ++ numsT (x.take j) := ⟨_, rfl⟩
          have hql : Q.length ≤ 8467 := by
            have := numsT_len (xs := x.take j) (fun y hy => HX.out y (List.mem_of_mem_take hy))
            have := List.length_take_le j x
            rw [hQ, List.length_append]
            omega
          rw [← hQ]
          by_cases hlt2 : j < x.length
          · obtain ⟨y, hy⟩ := get_some hlt2
            obtain ⟨q, g, rfl, hff, c5⟩ := (rx.up hs2.out).int hy
            have hmv := HX.out y (List.mem_of_getElem? hy)
            obtain ⟨n, rfl⟩ := Int.eq_ofNat_of_zero_le hmv.1
            have hml := dec_len (n := n) (by omega)
            have HW := Lib.hid (decimal_spec n (by omega) wi)
            have HT2 := Lib.hid (numsT_snoc hy)
            obtain ⟨M, hM⟩ : ∃ M, M = Lib.decDigits n := ⟨_, rfl⟩
            rw [show ((n : Nat) : Int).toNat = n from rfl] at HT2
            rw [← hM] at HW HT2 hml
            have HQ := Lib.hid hQ
            have j2 : (0 : Int) ≤ (j : Int) := by omega
            have j3 : (j : Int) < (x.length : Int) := by omega
            have e1 : ({ data := #[32] } : ByteArray) ++ str M = str (32 :: M) := str_add [32] M
            have u0 : ¬ 9223372036854775807 < 1 + (str M).size := by rw [str_size]; omega
            have u0' : ¬ 9223372036854775807 < ({ data := #[32] } : ByteArray).size + (str M).size := u0
            have u1 : ¬ 9223372036854775807 < (str Q).size + (str (32 :: M)).size := by rw [str_size, str_size]; simp only [List.length_cons]; omega
            have e2 : str Q ++ str (32 :: M) = str (Q ++ 32 :: M) := str_add _ _
            clear hy hM hQ hmv
            go_wp2_with fail
            refine HW.out.mono ?_
            rintro e w5 ⟨rfl, hb5⟩
            have hz5 := hb5.size
            have HS5 : Since wo w5 := ⟨hs2.out.trans (hb5.mono hzi)⟩
            go_wp2
            go_roundw
            case rel => exact ⟨j + 1, by omega, by go_num, (by rw [HT2.out, ← List.append_assoc, ← HQ.out] <;> rfl), HS5⟩
            case measure => simp [intOf]; omega
          · obtain rfl : j = x.length := by omega
            rw [List.take_length] at hQ
            have HQ := Lib.hid hQ
            have u1 : ¬ 9223372036854775807 < (str Q).size + 1 := by rw [str_size]; omega
            have u1' : ¬ 9223372036854775807 < (str Q).size + ({ data := #[10] } : ByteArray).size := u1
            have e2 : str Q ++ ({ data := #[10] } : ByteArray) = str (Q ++ [10]) := str_add Q [10]
            have HS5 : Since w4 wi := ⟨hs.out.trans (hs2.out.mono hzo)⟩
            clear hQ
            go_wp2
            go_roundw
            case rel => exact ⟨k + 1, by omega, by go_num, (by rw [HTK.out, HQ.out, HG.out.2, HG.out.1]; simp), HS5⟩
            case measure => simp [intOf]; omega
      · have b1 : str G ++ ({ data := #[121, 101, 115] } : ByteArray) = str G2 := by rw [hG2]; exact str_add G [121, 101, 115]
        have b2 : ¬ 9223372036854775807 < (str G).size + 3 := by rw [str_size]; omega
        have b2' : ¬ 9223372036854775807 < (str G).size + ({ data := #[121, 101, 115] } : ByteArray).size := b2
        clear hG2
        go_wp2
        clear b1 b2 b2'
        go_loopw [3, 5] (fun t i wi => ∃ j : Nat, j ≤ x.length ∧ i = .int .i64 j ∧ t = .string (str (G2 ++ numsT (x.take j))) ∧ Since wo wi) (fun _ i _ => x.length - (intOf i).toNat)
        case atStart => exact ⟨0, Nat.zero_le _, rfl, by simp [numsT], ⟨Below.refl _ _⟩⟩
        case round =>
          obtain ⟨j, hj, rfl, rfl, hs2⟩ := hrel
          obtain ⟨wi, rfl⟩ : ∃ wi, wi = wr := ⟨_, rfl⟩
          have hzi := hs2.out.size
          have hli : w.heap.size < wi.heap.size := by omega
          have hbbi : b' < wi.heap.size := by omega
          have ti := (hs2.out.cell (p := ⟨w.heap.size, 3, none⟩) hlo).trans tn_
          have cxi := (hs2.out.cell (p := ⟨b', o + k, none⟩) hbx).trans cx
          obtain ⟨Q, hQ⟩ : ∃ Q, Q = G2 ++ numsT (x.take j) := ⟨_, rfl⟩
          have hql : Q.length ≤ 8467 := by
            have := numsT_len (xs := x.take j) (fun y hy => HX.out y (List.mem_of_mem_take hy))
            have := List.length_take_le j x
            rw [hQ, List.length_append]
            omega
          rw [← hQ]
          by_cases hlt2 : j < x.length
          · obtain ⟨y, hy⟩ := get_some hlt2
            obtain ⟨q, g, rfl, hff, c5⟩ := (rx.up hs2.out).int hy
            have hmv := HX.out y (List.mem_of_getElem? hy)
            obtain ⟨n, rfl⟩ := Int.eq_ofNat_of_zero_le hmv.1
            have hml := dec_len (n := n) (by omega)
            have HW := Lib.hid (decimal_spec n (by omega) wi)
            have HT2 := Lib.hid (numsT_snoc hy)
            obtain ⟨M, hM⟩ : ∃ M, M = Lib.decDigits n := ⟨_, rfl⟩
            rw [show ((n : Nat) : Int).toNat = n from rfl] at HT2
            rw [← hM] at HW HT2 hml
            have HQ := Lib.hid hQ
            have j2 : (0 : Int) ≤ (j : Int) := by omega
            have j3 : (j : Int) < (x.length : Int) := by omega
            have e1 : ({ data := #[32] } : ByteArray) ++ str M = str (32 :: M) := str_add [32] M
            have u0 : ¬ 9223372036854775807 < 1 + (str M).size := by rw [str_size]; omega
            have u0' : ¬ 9223372036854775807 < ({ data := #[32] } : ByteArray).size + (str M).size := u0
            have u1 : ¬ 9223372036854775807 < (str Q).size + (str (32 :: M)).size := by rw [str_size, str_size]; simp only [List.length_cons]; omega
            have e2 : str Q ++ str (32 :: M) = str (Q ++ 32 :: M) := str_add _ _
            clear hy hM hQ hmv
            go_wp2_with fail
            refine HW.out.mono ?_
            rintro e w5 ⟨rfl, hb5⟩
            have hz5 := hb5.size
            have HS5 : Since wo w5 := ⟨hs2.out.trans (hb5.mono hzi)⟩
            go_wp2
            go_roundw
            case rel => exact ⟨j + 1, by omega, by go_num, (by rw [HT2.out, ← List.append_assoc, ← HQ.out] <;> rfl), HS5⟩
            case measure => simp [intOf]; omega
          · obtain rfl : j = x.length := by omega
            rw [List.take_length] at hQ
            have HQ := Lib.hid hQ
            have u1 : ¬ 9223372036854775807 < (str Q).size + 1 := by rw [str_size]; omega
            have u1' : ¬ 9223372036854775807 < (str Q).size + ({ data := #[10] } : ByteArray).size := u1
            have e2 : str Q ++ ({ data := #[10] } : ByteArray) = str (Q ++ [10]) := str_add Q [10]
            have HS5 : Since w4 wi := ⟨hs.out.trans (hs2.out.mono hzo)⟩
            clear hQ
            go_wp2
            go_roundw
            case rel => exact ⟨k + 1, by omega, by go_num, (by rw [HTK.out, HQ.out, HG.out.2, HG.out.1]; simp), HS5⟩
            case measure => simp [intOf]; omega
    · obtain rfl : k = T.accept.length := by omega
      have HBo : Since w wo := ⟨HB4.out.trans (hs.out.mono HB4.out.size)⟩
      go_wp2
      go_ret
      exact ⟨rfl, HBo.out⟩
end Go.Proofs.YtelmooaenodfaaaDoor
