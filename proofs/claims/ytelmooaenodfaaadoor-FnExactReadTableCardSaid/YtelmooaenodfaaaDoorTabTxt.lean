/-
  The texts of exits and of tables, by the program and by the reference. Conditions: those in each statement.
-/
import Derived.Test.YtelmooaenodfaaaDoorTxt
import Derived.Test.YtelmooaenodfaaaDoorVTab
set_option linter.unusedVariables false
set_option linter.unusedSimpArgs false
set_option maxRecDepth 100000
set_option maxHeartbeats 1000000
namespace Go.Proofs.YtelmooaenodfaaaDoor
open Go.RowKit

def sideW (t : Int) : List UInt8 := if t = -3 then [111, 110] else if t = -2 then [110, 111] else [121, 101, 115]
def exitT (x : Int × Int) : List UInt8 := if x.1 = -1 then 32 :: 60 :: Lib.decDigits x.2.toNat else if x.1 = 1 then 32 :: 62 :: Lib.decDigits x.2.toNat else 32 :: sideW x.2
def exitsT (xs : List (Int × Int)) : List UInt8 := xs.flatMap exitT
def Tb.text (T : Tb) : List UInt8 := [108, 101, 102, 116] ++ exitsT T.l ++ [10] ++ ([114, 105, 103, 104, 116] ++ exitsT T.r ++ [10])
def Tb.textC (T : Tb) : List UInt8 := if T.okB = true then T.text else []
/-- An exit as a table of at most 12 states may have it. -/
def ExOk (x : Int × Int) : Prop := x.1 = 0 ∧ -3 ≤ x.2 ∧ x.2 ≤ -1 ∨ (x.1 = -1 ∨ x.1 = 1) ∧ 0 ≤ x.2 ∧ x.2 ≤ 11
theorem exOk_of {n : Int} {x : Int × Int} (h : exitOk n x = true) (hn : n ≤ 12) : ExOk x := by
  unfold exitOk at h
  by_cases h0 : x.1 = 0
  · rw [if_pos h0] at h
    have := of_decide_eq_true h
    exact .inl ⟨h0, this⟩
  · rw [if_neg h0] at h
    by_cases h1 : x.1 = -1 ∨ x.1 = 1
    · rw [if_pos h1] at h
      have := of_decide_eq_true h
      exact .inr ⟨h1, this.1, by omega⟩
    · rw [if_neg h1] at h
      cases h
theorem exitT_len {x : Int × Int} (h : ExOk x) : (exitT x).length ≤ 9 := by
  have hd : ∀ z : Int, z ≤ 11 → (Lib.decDigits z.toNat).length ≤ 7 := fun z hz => dec_len (by omega)
  unfold exitT sideW
  rcases h with ⟨h1, h2, h3⟩ | ⟨h1, h2, h3⟩
  · rw [if_neg (by omega), if_neg (by omega)]
    split
    · simp
    · split <;> simp
  · have := hd x.2 h3
    rcases h1 with h1 | h1
    · rw [if_pos h1]; simp; omega
    · rw [if_neg (by omega), if_pos h1]; simp; omega
theorem exitsT_len : ∀ {xs : List (Int × Int)}, (∀ x ∈ xs, ExOk x) → (exitsT xs).length ≤ 9 * xs.length
  | [], _ => Nat.zero_le _
  | x :: xs, h => by
    have h1 := exitT_len (h x (List.mem_cons_self ..))
    have h2 := exitsT_len (xs := xs) fun y hy => h y (List.mem_cons_of_mem _ hy)
    have h3 : exitsT (x :: xs) = exitT x ++ exitsT xs := rfl
    rw [h3, List.length_append, List.length_cons]
    omega
theorem exitsT_snoc {xs : List (Int × Int)} {k : Nat} {x : Int × Int} (h : xs[k]? = some x) : exitsT (xs.take (k + 1)) = exitsT (xs.take k) ++ exitT x := by
  unfold exitsT
  rw [take_snoc h, List.flatMap_append]
  simp

set_option maxHeartbeats 4000000 in
theorem l03Line_spec (wd : List UInt8) (hwd : wd.length ≤ 5) (A : Option Addr) (xs : List (Int × Int)) (c : Nat) (w : World) (r : RdS w w.heap.size A xs) (hl : xs.length ≤ 12) (hX : ∀ x ∈ xs, ExOk x) :
    Calls Tryd.prog 74 #[.string (str wd), .slice A xs.length c] w fun e w' => e = .returned (.string (str (wd ++ exitsT xs ++ [10]))) ∧ Below w.heap.size w w' := by
  have HX := Lib.hid hX
  clear hX
  go_enter Tryd.func74, Tryd.ntmps74
  go_wp2
  go_loopw [0, 5] (fun t i wr => ∃ k : Nat, k ≤ xs.length ∧ i = .int .i64 k ∧ t = .string (str (wd ++ exitsT (xs.take k))) ∧ Since w wr) (fun _ i _ => xs.length - (intOf i).toNat)
  case atStart => exact ⟨0, Nat.zero_le _, rfl, by simp [exitsT], ⟨(by repeat (first | exact Below.refl _ _ | refine Below.alloc ?_ (by first | omega | (simp only [sz_alloc, sz_set, sz_drew, sz_drewN]; omega) | (simp only [sz_alloc, sz_set, sz_drew, sz_drewN] at *; omega)) _ | refine Below.setCell ?_ (by first | omega | (simp only [sz_alloc, sz_set, sz_drew, sz_drewN]; omega) | (simp only [sz_alloc, sz_set, sz_drew, sz_drewN] at *; omega)) _ | refine Below.drew ?_ | refine below_drewN_ ?_ _))⟩⟩
  case round =>
    obtain ⟨k, hk, rfl, rfl, hs⟩ := hrel
    obtain ⟨wo, rfl⟩ : ∃ wo, wo = wr := ⟨_, rfl⟩
    by_cases hlt : k < xs.length
    · obtain ⟨x, hx⟩ := get_some hlt
      obtain ⟨b, o, rfl, hbb, cx, cy⟩ := (r.up hs.out).pair hx
      have hok := HX.out x (List.mem_of_getElem? hx)
      have HT := Lib.hid (exitsT_snoc hx)
      have htl : (wd ++ exitsT (xs.take k)).length ≤ 9 * 12 + 5 := by
        have := exitsT_len (xs := xs.take k) (fun y hy => HX.out y (List.mem_of_mem_take hy))
        have := List.length_take_le k xs
        rw [List.length_append]
        omega
      obtain ⟨tx, htx⟩ : ∃ tx, tx = wd ++ exitsT (xs.take k) := ⟨_, rfl⟩
      rw [← htx] at htl ⊢
      have HTX := Lib.hid htx
      have i2 : (0 : Int) ≤ (k : Int) := by omega
      have i3 : (k : Int) < (xs.length : Int) := by omega
      have hzo := hs.out.size
      clear hx htx
      obtain ⟨side, to_⟩ := x
      simp only at cx cy
      rcases hok with ⟨h1, h2, h3⟩ | ⟨h1, h2, h3⟩
      · simp only at h1 h2 h3
        subst h1
        have HW : Hid (exitT (0, to_) = 32 :: sideW to_) := Lib.hid (by unfold exitT; simp)
        rcases (show to_ = -3 ∨ to_ = -2 ∨ to_ = -1 by omega) with rfl | rfl | rfl
        · have e1 : ({ data := #[32] } : ByteArray) ++ { data := #[111, 110] } = str [32, 111, 110] := str_add [32] [111, 110]
          have s1 : ¬ 9223372036854775807 < (str tx).size + (str [32, 111, 110]).size := by rw [str_size, str_size]; simp only [List.length_cons, List.length_nil]; omega
          have e2 : str tx ++ str [32, 111, 110] = str (tx ++ [32, 111, 110]) := str_add _ _
          go_wp2
          go_roundw
          case rel => exact ⟨k + 1, by omega, by go_num, (by rw [HT.out, HW.out, ← List.append_assoc, ← HTX.out] <;> rfl), ⟨(by repeat (first | exact Below.refl _ _ | exact Since.out (by assumption) | refine Below.alloc ?_ (by first | omega | (simp only [sz_alloc, sz_set, sz_drew, sz_drewN]; omega) | (simp only [sz_alloc, sz_set, sz_drew, sz_drewN] at *; omega)) _ | refine Below.setCell ?_ (by first | omega | (simp only [sz_alloc, sz_set, sz_drew, sz_drewN]; omega) | (simp only [sz_alloc, sz_set, sz_drew, sz_drewN] at *; omega)) _ | refine Below.drew ?_ | refine below_drewN_ ?_ _))⟩⟩
          case measure => simp [intOf]; omega
        · have e1 : ({ data := #[32] } : ByteArray) ++ { data := #[110, 111] } = str [32, 110, 111] := str_add [32] [110, 111]
          have s1 : ¬ 9223372036854775807 < (str tx).size + (str [32, 110, 111]).size := by rw [str_size, str_size]; simp only [List.length_cons, List.length_nil]; omega
          have e2 : str tx ++ str [32, 110, 111] = str (tx ++ [32, 110, 111]) := str_add _ _
          go_wp2
          go_roundw
          case rel => exact ⟨k + 1, by omega, by go_num, (by rw [HT.out, HW.out, ← List.append_assoc, ← HTX.out] <;> rfl), ⟨(by repeat (first | exact Below.refl _ _ | exact Since.out (by assumption) | refine Below.alloc ?_ (by first | omega | (simp only [sz_alloc, sz_set, sz_drew, sz_drewN]; omega) | (simp only [sz_alloc, sz_set, sz_drew, sz_drewN] at *; omega)) _ | refine Below.setCell ?_ (by first | omega | (simp only [sz_alloc, sz_set, sz_drew, sz_drewN]; omega) | (simp only [sz_alloc, sz_set, sz_drew, sz_drewN] at *; omega)) _ | refine Below.drew ?_ | refine below_drewN_ ?_ _))⟩⟩
          case measure => simp [intOf]; omega
        · have e1 : ({ data := #[32] } : ByteArray) ++ { data := #[121, 101, 115] } = str [32, 121, 101, 115] := str_add [32] [121, 101, 115]
          have s1 : ¬ 9223372036854775807 < (str tx).size + (str [32, 121, 101, 115]).size := by rw [str_size, str_size]; simp only [List.length_cons, List.length_nil]; omega
          have e2 : str tx ++ str [32, 121, 101, 115] = str (tx ++ [32, 121, 101, 115]) := str_add _ _
          go_wp2
          go_roundw
          case rel => exact ⟨k + 1, by omega, by go_num, (by rw [HT.out, HW.out, ← List.append_assoc, ← HTX.out] <;> rfl), ⟨(by repeat (first | exact Below.refl _ _ | exact Since.out (by assumption) | refine Below.alloc ?_ (by first | omega | (simp only [sz_alloc, sz_set, sz_drew, sz_drewN]; omega) | (simp only [sz_alloc, sz_set, sz_drew, sz_drewN] at *; omega)) _ | refine Below.setCell ?_ (by first | omega | (simp only [sz_alloc, sz_set, sz_drew, sz_drewN]; omega) | (simp only [sz_alloc, sz_set, sz_drew, sz_drewN] at *; omega)) _ | refine Below.drew ?_ | refine below_drewN_ ?_ _))⟩⟩
          case measure => simp [intOf]; omega
      · simp only at h1 h2 h3
        obtain ⟨n, rfl⟩ := Int.eq_ofNat_of_zero_le h2
        have hn : n ≤ 11 := by omega
        have hdl := dec_len (n := n) (by omega)
        rcases h1 with rfl | rfl
        · have HW : Hid (exitT (-1, (n : Int)) = 32 :: 60 :: Lib.decDigits n) := Lib.hid (by unfold exitT; simp)
          obtain ⟨D, hD⟩ : ∃ D, D = Lib.decDigits n := ⟨_, rfl⟩
          have HD : Hid (∀ W : World, Calls Tryd.prog 79 #[.int .i64 (n : Int)] W fun e w' => e = .returned (.string (str D)) ∧ Below W.heap.size W w') := Lib.hid fun W => (decimal_spec n (by omega) W).mono fun e w' ⟨he, hw⟩ => ⟨by rw [hD]; exact he, hw⟩
          rw [← hD] at hdl HW
          have e1 : ({ data := #[32, 60] } : ByteArray) ++ str D = str (32 :: 60 :: D) := str_add [32, 60] D
          have s0 : ¬ 9223372036854775807 < 2 + (str D).size := by rw [str_size]; omega
          have s0' : ¬ 9223372036854775807 < ({ data := #[32, 60] } : ByteArray).size + (str D).size := s0
          have s1 : ¬ 9223372036854775807 < (str tx).size + (str (32 :: 60 :: D)).size := by rw [str_size, str_size]; simp only [List.length_cons]; omega
          have e2 : str tx ++ str (32 :: 60 :: D) = str (tx ++ 32 :: 60 :: D) := str_add _ _
          clear hD
          go_wp2_with fail
          refine (HD.out _).mono ?_
          rintro e w1 ⟨rfl, hb1⟩
          have hz1 := hb1.size
          (try simp only [sz_alloc, sz_set, sz_drew, sz_drewN] at hz1)
          have HS1 : Since w w1 := ⟨below_cat (by repeat (first | exact Below.refl _ _ | exact Since.out (by assumption) | refine Below.alloc ?_ (by first | omega | (simp only [sz_alloc, sz_set, sz_drew, sz_drewN]; omega) | (simp only [sz_alloc, sz_set, sz_drew, sz_drewN] at *; omega)) _ | refine Below.setCell ?_ (by first | omega | (simp only [sz_alloc, sz_set, sz_drew, sz_drewN]; omega) | (simp only [sz_alloc, sz_set, sz_drew, sz_drewN] at *; omega)) _ | refine Below.drew ?_ | refine below_drewN_ ?_ _)) hb1 (by first | omega | (simp only [sz_alloc, sz_set, sz_drew, sz_drewN]; omega) | (simp only [sz_alloc, sz_set, sz_drew, sz_drewN] at *; omega))⟩
          go_wp2
          go_roundw
          case rel => exact ⟨k + 1, by omega, by go_num, (by rw [HT.out, HW.out, ← List.append_assoc, ← HTX.out] <;> rfl), ⟨(by repeat (first | exact Below.refl _ _ | exact Since.out (by assumption) | refine Below.alloc ?_ (by first | omega | (simp only [sz_alloc, sz_set, sz_drew, sz_drewN]; omega) | (simp only [sz_alloc, sz_set, sz_drew, sz_drewN] at *; omega)) _ | refine Below.setCell ?_ (by first | omega | (simp only [sz_alloc, sz_set, sz_drew, sz_drewN]; omega) | (simp only [sz_alloc, sz_set, sz_drew, sz_drewN] at *; omega)) _ | refine Below.drew ?_ | refine below_drewN_ ?_ _))⟩⟩
          case measure => simp [intOf]; omega
        · have HW : Hid (exitT (1, (n : Int)) = 32 :: 62 :: Lib.decDigits n) := Lib.hid (by unfold exitT; simp)
          obtain ⟨D, hD⟩ : ∃ D, D = Lib.decDigits n := ⟨_, rfl⟩
          have HD : Hid (∀ W : World, Calls Tryd.prog 79 #[.int .i64 (n : Int)] W fun e w' => e = .returned (.string (str D)) ∧ Below W.heap.size W w') := Lib.hid fun W => (decimal_spec n (by omega) W).mono fun e w' ⟨he, hw⟩ => ⟨by rw [hD]; exact he, hw⟩
          rw [← hD] at hdl HW
          have e1 : ({ data := #[32, 62] } : ByteArray) ++ str D = str (32 :: 62 :: D) := str_add [32, 62] D
          have s0 : ¬ 9223372036854775807 < 2 + (str D).size := by rw [str_size]; omega
          have s0' : ¬ 9223372036854775807 < ({ data := #[32, 62] } : ByteArray).size + (str D).size := s0
          have s1 : ¬ 9223372036854775807 < (str tx).size + (str (32 :: 62 :: D)).size := by rw [str_size, str_size]; simp only [List.length_cons]; omega
          have e2 : str tx ++ str (32 :: 62 :: D) = str (tx ++ 32 :: 62 :: D) := str_add _ _
          clear hD
          go_wp2_with fail
          refine (HD.out _).mono ?_
          rintro e w1 ⟨rfl, hb1⟩
          have hz1 := hb1.size
          (try simp only [sz_alloc, sz_set, sz_drew, sz_drewN] at hz1)
          have HS1 : Since w w1 := ⟨below_cat (by repeat (first | exact Below.refl _ _ | exact Since.out (by assumption) | refine Below.alloc ?_ (by first | omega | (simp only [sz_alloc, sz_set, sz_drew, sz_drewN]; omega) | (simp only [sz_alloc, sz_set, sz_drew, sz_drewN] at *; omega)) _ | refine Below.setCell ?_ (by first | omega | (simp only [sz_alloc, sz_set, sz_drew, sz_drewN]; omega) | (simp only [sz_alloc, sz_set, sz_drew, sz_drewN] at *; omega)) _ | refine Below.drew ?_ | refine below_drewN_ ?_ _)) hb1 (by first | omega | (simp only [sz_alloc, sz_set, sz_drew, sz_drewN]; omega) | (simp only [sz_alloc, sz_set, sz_drew, sz_drewN] at *; omega))⟩
          go_wp2
          go_roundw
          case rel => exact ⟨k + 1, by omega, by go_num, (by rw [HT.out, HW.out, ← List.append_assoc, ← HTX.out] <;> rfl), ⟨(by repeat (first | exact Below.refl _ _ | exact Since.out (by assumption) | refine Below.alloc ?_ (by first | omega | (simp only [sz_alloc, sz_set, sz_drew, sz_drewN]; omega) | (simp only [sz_alloc, sz_set, sz_drew, sz_drewN] at *; omega)) _ | refine Below.setCell ?_ (by first | omega | (simp only [sz_alloc, sz_set, sz_drew, sz_drewN]; omega) | (simp only [sz_alloc, sz_set, sz_drew, sz_drewN] at *; omega)) _ | refine Below.drew ?_ | refine below_drewN_ ?_ _))⟩⟩
          case measure => simp [intOf]; omega
    · obtain rfl : k = xs.length := by omega
      have hfl : (wd ++ exitsT xs).length ≤ 9 * 12 + 5 := by
        have := exitsT_len (xs := xs) HX.out
        rw [List.length_append]
        omega
      rw [List.take_length]
      have s1 : ¬ 9223372036854775807 < (str (wd ++ exitsT xs)).size + 1 := by rw [str_size]; omega
      have s1' : ¬ 9223372036854775807 < (str (wd ++ exitsT xs)).size + ({ data := #[10] } : ByteArray).size := s1
      have e2 : str (wd ++ exitsT xs) ++ { data := #[10] } = str (wd ++ exitsT xs ++ [10]) := str_add _ [10]
      go_wp2
      go_ret
      exact ⟨by rw [List.append_assoc]; rfl, hs.out⟩

set_option maxHeartbeats 4000000 in
theorem exitsText_impl (A : Option Addr) (xs : List (Int × Int)) (c : Nat) (w : World) (r : RdS w w.heap.size A xs) (hl : xs.length ≤ 12) (hX : ∀ x ∈ xs, ExOk x) :
    Calls Tryd.prog 76 #[.slice A xs.length c] w fun e w' => e = .returned (.string (str (exitsT xs))) ∧ Below w.heap.size w w' := by
  have HX := Lib.hid hX
  clear hX
  go_enter Tryd.func76, Tryd.ntmps76
  go_wp2
  go_loopw [3, 8] (fun t i wr => ∃ k : Nat, k ≤ xs.length ∧ i = .int .i64 k ∧ t = .string (str (exitsT (xs.take k))) ∧ Since w wr) (fun _ i _ => xs.length - (intOf i).toNat)
  case atStart => exact ⟨0, Nat.zero_le _, rfl, by simp [exitsT, str], ⟨(by repeat (first | exact Below.refl _ _ | refine Below.alloc ?_ (by first | omega | (simp only [sz_alloc, sz_set, sz_drew, sz_drewN]; omega) | (simp only [sz_alloc, sz_set, sz_drew, sz_drewN] at *; omega)) _ | refine Below.setCell ?_ (by first | omega | (simp only [sz_alloc, sz_set, sz_drew, sz_drewN]; omega) | (simp only [sz_alloc, sz_set, sz_drew, sz_drewN] at *; omega)) _ | refine Below.drew ?_ | refine below_drewN_ ?_ _))⟩⟩
  case round =>
    obtain ⟨k, hk, rfl, rfl, hs⟩ := hrel
    obtain ⟨wo, rfl⟩ : ∃ wo, wo = wr := ⟨_, rfl⟩
    by_cases hlt : k < xs.length
    · obtain ⟨x, hx⟩ := get_some hlt
      obtain ⟨b, o, rfl, hbb, cx, cy⟩ := (r.up hs.out).pair hx
      have hok := HX.out x (List.mem_of_getElem? hx)
      have HT := Lib.hid (exitsT_snoc hx)
      have htl : (exitsT (xs.take k)).length ≤ 9 * 12 + 5 := by
        have := exitsT_len (xs := xs.take k) (fun y hy => HX.out y (List.mem_of_mem_take hy))
        have := List.length_take_le k xs
        
        omega
      obtain ⟨tx, htx⟩ : ∃ tx, tx = exitsT (xs.take k) := ⟨_, rfl⟩
      rw [← htx] at htl ⊢
      have HTX := Lib.hid htx
      have i2 : (0 : Int) ≤ (k : Int) := by omega
      have i3 : (k : Int) < (xs.length : Int) := by omega
      have hzo := hs.out.size
      clear hx htx
      obtain ⟨side, to_⟩ := x
      simp only at cx cy
      rcases hok with ⟨h1, h2, h3⟩ | ⟨h1, h2, h3⟩
      · simp only at h1 h2 h3
        subst h1
        have HW : Hid (exitT (0, to_) = 32 :: sideW to_) := Lib.hid (by unfold exitT; simp)
        rcases (show to_ = -3 ∨ to_ = -2 ∨ to_ = -1 by omega) with rfl | rfl | rfl
        · have e1 : ({ data := #[32] } : ByteArray) ++ { data := #[111, 110] } = str [32, 111, 110] := str_add [32] [111, 110]
          have s1 : ¬ 9223372036854775807 < (str tx).size + (str [32, 111, 110]).size := by rw [str_size, str_size]; simp only [List.length_cons, List.length_nil]; omega
          have e2 : str tx ++ str [32, 111, 110] = str (tx ++ [32, 111, 110]) := str_add _ _
          go_wp2
          go_roundw
          case rel => exact ⟨k + 1, by omega, by go_num, (by rw [HT.out, HW.out, ← HTX.out] <;> rfl), ⟨(by repeat (first | exact Below.refl _ _ | exact Since.out (by assumption) | refine Below.alloc ?_ (by first | omega | (simp only [sz_alloc, sz_set, sz_drew, sz_drewN]; omega) | (simp only [sz_alloc, sz_set, sz_drew, sz_drewN] at *; omega)) _ | refine Below.setCell ?_ (by first | omega | (simp only [sz_alloc, sz_set, sz_drew, sz_drewN]; omega) | (simp only [sz_alloc, sz_set, sz_drew, sz_drewN] at *; omega)) _ | refine Below.drew ?_ | refine below_drewN_ ?_ _))⟩⟩
          case measure => simp [intOf]; omega
        · have e1 : ({ data := #[32] } : ByteArray) ++ { data := #[110, 111] } = str [32, 110, 111] := str_add [32] [110, 111]
          have s1 : ¬ 9223372036854775807 < (str tx).size + (str [32, 110, 111]).size := by rw [str_size, str_size]; simp only [List.length_cons, List.length_nil]; omega
          have e2 : str tx ++ str [32, 110, 111] = str (tx ++ [32, 110, 111]) := str_add _ _
          go_wp2
          go_roundw
          case rel => exact ⟨k + 1, by omega, by go_num, (by rw [HT.out, HW.out, ← HTX.out] <;> rfl), ⟨(by repeat (first | exact Below.refl _ _ | exact Since.out (by assumption) | refine Below.alloc ?_ (by first | omega | (simp only [sz_alloc, sz_set, sz_drew, sz_drewN]; omega) | (simp only [sz_alloc, sz_set, sz_drew, sz_drewN] at *; omega)) _ | refine Below.setCell ?_ (by first | omega | (simp only [sz_alloc, sz_set, sz_drew, sz_drewN]; omega) | (simp only [sz_alloc, sz_set, sz_drew, sz_drewN] at *; omega)) _ | refine Below.drew ?_ | refine below_drewN_ ?_ _))⟩⟩
          case measure => simp [intOf]; omega
        · have e1 : ({ data := #[32] } : ByteArray) ++ { data := #[121, 101, 115] } = str [32, 121, 101, 115] := str_add [32] [121, 101, 115]
          have s1 : ¬ 9223372036854775807 < (str tx).size + (str [32, 121, 101, 115]).size := by rw [str_size, str_size]; simp only [List.length_cons, List.length_nil]; omega
          have e2 : str tx ++ str [32, 121, 101, 115] = str (tx ++ [32, 121, 101, 115]) := str_add _ _
          go_wp2
          go_roundw
          case rel => exact ⟨k + 1, by omega, by go_num, (by rw [HT.out, HW.out, ← HTX.out] <;> rfl), ⟨(by repeat (first | exact Below.refl _ _ | exact Since.out (by assumption) | refine Below.alloc ?_ (by first | omega | (simp only [sz_alloc, sz_set, sz_drew, sz_drewN]; omega) | (simp only [sz_alloc, sz_set, sz_drew, sz_drewN] at *; omega)) _ | refine Below.setCell ?_ (by first | omega | (simp only [sz_alloc, sz_set, sz_drew, sz_drewN]; omega) | (simp only [sz_alloc, sz_set, sz_drew, sz_drewN] at *; omega)) _ | refine Below.drew ?_ | refine below_drewN_ ?_ _))⟩⟩
          case measure => simp [intOf]; omega
      · simp only at h1 h2 h3
        obtain ⟨n, rfl⟩ := Int.eq_ofNat_of_zero_le h2
        have hn : n ≤ 11 := by omega
        have hdl := dec_len (n := n) (by omega)
        rcases h1 with rfl | rfl
        · have HW : Hid (exitT (-1, (n : Int)) = 32 :: 60 :: Lib.decDigits n) := Lib.hid (by unfold exitT; simp)
          obtain ⟨D, hD⟩ : ∃ D, D = Lib.decDigits n := ⟨_, rfl⟩
          have HD : Hid (∀ W : World, Calls Tryd.prog 124 #[.int .i64 (n : Int)] W fun e w' => e = .returned (.string (str D)) ∧ Below W.heap.size W w') := Lib.hid fun W => (decimal_impl n (by omega) W).mono fun e w' ⟨he, hw⟩ => ⟨by rw [hD]; exact he, hw ▸ Below.refl _ _⟩
          rw [← hD] at hdl HW
          have e1 : ({ data := #[32, 60] } : ByteArray) ++ str D = str (32 :: 60 :: D) := str_add [32, 60] D
          have s0 : ¬ 9223372036854775807 < 2 + (str D).size := by rw [str_size]; omega
          have s0' : ¬ 9223372036854775807 < ({ data := #[32, 60] } : ByteArray).size + (str D).size := s0
          have s1 : ¬ 9223372036854775807 < (str tx).size + (str (32 :: 60 :: D)).size := by rw [str_size, str_size]; simp only [List.length_cons]; omega
          have e2 : str tx ++ str (32 :: 60 :: D) = str (tx ++ 32 :: 60 :: D) := str_add _ _
          clear hD
          go_wp2_with fail
          refine (HD.out _).mono ?_
          rintro e w1 ⟨rfl, hb1⟩
          have hz1 := hb1.size
          (try simp only [sz_alloc, sz_set, sz_drew, sz_drewN] at hz1)
          have HS1 : Since w w1 := ⟨below_cat (by repeat (first | exact Below.refl _ _ | exact Since.out (by assumption) | refine Below.alloc ?_ (by first | omega | (simp only [sz_alloc, sz_set, sz_drew, sz_drewN]; omega) | (simp only [sz_alloc, sz_set, sz_drew, sz_drewN] at *; omega)) _ | refine Below.setCell ?_ (by first | omega | (simp only [sz_alloc, sz_set, sz_drew, sz_drewN]; omega) | (simp only [sz_alloc, sz_set, sz_drew, sz_drewN] at *; omega)) _ | refine Below.drew ?_ | refine below_drewN_ ?_ _)) hb1 (by first | omega | (simp only [sz_alloc, sz_set, sz_drew, sz_drewN]; omega) | (simp only [sz_alloc, sz_set, sz_drew, sz_drewN] at *; omega))⟩
          go_wp2
          go_roundw
          case rel => exact ⟨k + 1, by omega, by go_num, (by rw [HT.out, HW.out, ← HTX.out] <;> rfl), ⟨(by repeat (first | exact Below.refl _ _ | exact Since.out (by assumption) | refine Below.alloc ?_ (by first | omega | (simp only [sz_alloc, sz_set, sz_drew, sz_drewN]; omega) | (simp only [sz_alloc, sz_set, sz_drew, sz_drewN] at *; omega)) _ | refine Below.setCell ?_ (by first | omega | (simp only [sz_alloc, sz_set, sz_drew, sz_drewN]; omega) | (simp only [sz_alloc, sz_set, sz_drew, sz_drewN] at *; omega)) _ | refine Below.drew ?_ | refine below_drewN_ ?_ _))⟩⟩
          case measure => simp [intOf]; omega
        · have HW : Hid (exitT (1, (n : Int)) = 32 :: 62 :: Lib.decDigits n) := Lib.hid (by unfold exitT; simp)
          obtain ⟨D, hD⟩ : ∃ D, D = Lib.decDigits n := ⟨_, rfl⟩
          have HD : Hid (∀ W : World, Calls Tryd.prog 124 #[.int .i64 (n : Int)] W fun e w' => e = .returned (.string (str D)) ∧ Below W.heap.size W w') := Lib.hid fun W => (decimal_impl n (by omega) W).mono fun e w' ⟨he, hw⟩ => ⟨by rw [hD]; exact he, hw ▸ Below.refl _ _⟩
          rw [← hD] at hdl HW
          have e1 : ({ data := #[32, 62] } : ByteArray) ++ str D = str (32 :: 62 :: D) := str_add [32, 62] D
          have s0 : ¬ 9223372036854775807 < 2 + (str D).size := by rw [str_size]; omega
          have s0' : ¬ 9223372036854775807 < ({ data := #[32, 62] } : ByteArray).size + (str D).size := s0
          have s1 : ¬ 9223372036854775807 < (str tx).size + (str (32 :: 62 :: D)).size := by rw [str_size, str_size]; simp only [List.length_cons]; omega
          have e2 : str tx ++ str (32 :: 62 :: D) = str (tx ++ 32 :: 62 :: D) := str_add _ _
          clear hD
          go_wp2_with fail
          refine (HD.out _).mono ?_
          rintro e w1 ⟨rfl, hb1⟩
          have hz1 := hb1.size
          (try simp only [sz_alloc, sz_set, sz_drew, sz_drewN] at hz1)
          have HS1 : Since w w1 := ⟨below_cat (by repeat (first | exact Below.refl _ _ | exact Since.out (by assumption) | refine Below.alloc ?_ (by first | omega | (simp only [sz_alloc, sz_set, sz_drew, sz_drewN]; omega) | (simp only [sz_alloc, sz_set, sz_drew, sz_drewN] at *; omega)) _ | refine Below.setCell ?_ (by first | omega | (simp only [sz_alloc, sz_set, sz_drew, sz_drewN]; omega) | (simp only [sz_alloc, sz_set, sz_drew, sz_drewN] at *; omega)) _ | refine Below.drew ?_ | refine below_drewN_ ?_ _)) hb1 (by first | omega | (simp only [sz_alloc, sz_set, sz_drew, sz_drewN]; omega) | (simp only [sz_alloc, sz_set, sz_drew, sz_drewN] at *; omega))⟩
          go_wp2
          go_roundw
          case rel => exact ⟨k + 1, by omega, by go_num, (by rw [HT.out, HW.out, ← HTX.out] <;> rfl), ⟨(by repeat (first | exact Below.refl _ _ | exact Since.out (by assumption) | refine Below.alloc ?_ (by first | omega | (simp only [sz_alloc, sz_set, sz_drew, sz_drewN]; omega) | (simp only [sz_alloc, sz_set, sz_drew, sz_drewN] at *; omega)) _ | refine Below.setCell ?_ (by first | omega | (simp only [sz_alloc, sz_set, sz_drew, sz_drewN]; omega) | (simp only [sz_alloc, sz_set, sz_drew, sz_drewN] at *; omega)) _ | refine Below.drew ?_ | refine below_drewN_ ?_ _))⟩⟩
          case measure => simp [intOf]; omega
    · obtain rfl : k = xs.length := by omega
      go_wp2
      go_ret
      exact ⟨by rw [List.take_length]; rfl, hs.out⟩
end Go.Proofs.YtelmooaenodfaaaDoor
