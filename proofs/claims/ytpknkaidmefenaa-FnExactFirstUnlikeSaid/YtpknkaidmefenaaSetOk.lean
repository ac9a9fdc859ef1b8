/-
  Contracts of the program's and the reference's looks at rising lists of states. Conditions: those in each statement.
-/
import Derived.Test.YtpknkaidmefenaaMoveOk
import Derived.BigQuiet
import Derived.Deep.QuietTactic
set_option linter.unusedVariables false
set_option linter.unusedSimpArgs false
set_option maxRecDepth 100000
set_option maxHeartbeats 1000000
namespace Go.Proofs.Ytpknkaidmefenaa
open Go.RowKit

/-- numbers from lo to hi that rise, behind a number -/
def setGo (lo hi : Int) : Option Int → List Int → Bool
  | _, [] => true
  | none, x :: xs => inB x lo hi && setGo lo hi (some x) xs
  | some p, x :: xs => inB x lo hi && (decide (p < x) && setGo lo hi (some x) xs)
def setB (lo hi : Int) (xs : List Int) : Bool := setGo lo hi none xs
/-- what is left to be looked at from place k on -/
def setAt (lo hi : Int) (xs : List Int) : Nat → Bool
  | 0 => setGo lo hi none xs
  | k + 1 => setGo lo hi xs[k]? (xs.drop (k + 1))
section
variable {lo hi : Int} {xs : List Int} {k : Nat} {x p : Int}
theorem setAt_zero (lo hi : Int) (xs : List Int) : setB lo hi xs = setAt lo hi xs 0 := rfl
theorem setAt_end : setAt lo hi xs xs.length = true := by
  cases h : xs with
  | nil => rfl
  | cons y ys =>
    simp only [List.length_cons, setAt, List.drop_succ_cons, List.drop_length]
    cases (y :: ys)[ys.length]? <;> rfl
theorem setAt_bad0 (hx : xs[0]? = some x) (hv : inB x lo hi = false) : setAt lo hi xs 0 = false := by
  have := drop_cons hx
  rw [List.drop_zero] at this
  rw [setAt, this, setGo, hv]; rfl
theorem setAt_ok0 (hx : xs[0]? = some x) (hv : inB x lo hi = true) : setAt lo hi xs 0 = setAt lo hi xs 1 := by
  have := drop_cons hx
  rw [List.drop_zero] at this
  rw [setAt, this, setGo, hv, setAt]; simp
theorem setAt_bad1 (hp : xs[k]? = some p) (hx : xs[k + 1]? = some x) (hv : inB x lo hi = false) : setAt lo hi xs (k + 1) = false := by
  rw [setAt, hp, drop_cons hx, setGo, hv]; rfl
theorem setAt_ok1 (hp : xs[k]? = some p) (hx : xs[k + 1]? = some x) (hv : inB x lo hi = true) (h : p < x) : setAt lo hi xs (k + 1) = setAt lo hi xs (k + 1 + 1) := by
  rw [setAt, hp, drop_cons hx, setGo, hv, setAt, hx]; simp [h]
theorem setAt_bad2 (hp : xs[k]? = some p) (hx : xs[k + 1]? = some x) (hv : inB x lo hi = true) (h : ¬ p < x) : setAt lo hi xs (k + 1) = false := by
  rw [setAt, hp, drop_cons hx, setGo, hv]; simp [h]
end

theorem isSet (A : Option Addr) (xs : List Int) (c : Nat) (n : Int) (w : World) (h1 : RdS w w.heap.size A xs) (hl : xs.length ≤ 1048576) (g0 : 0 ≤ n) (g1 : n ≤ 1048576) :
    Calls Try.prog 63 #[.slice A xs.length c, .int .i64 n] w fun e w' => e = .returned (.bool (setB 0 (n - 1) xs)) ∧ ∃ m, w' = w.drewN m := by
  go_enter Try.func63, Try.ntmps63
  go_wp2
  go_loopw [9] (fun i wr => ∃ k : Nat, k ≤ xs.length ∧ i = .int .i64 k ∧ Drew w wr ∧ Hid (setB 0 (n - 1) xs = setAt 0 (n - 1) xs k)) (fun i _ => xs.length - (intOf i).toNat)
  case atStart => exact ⟨0, Nat.zero_le _, rfl, ⟨0, rfl⟩, Lib.hid (setAt_zero _ _ _)⟩
  case round =>
    obtain ⟨k, hk, rfl, hb, heq⟩ := hrel
    by_cases hlt : k < xs.length
    · obtain ⟨x, hx⟩ := get_some hlt
      cases k with
      | zero =>
        obtain ⟨b, o, rfl, hbb, c1⟩ := (hb.rd h1).int hx
        rw [Nat.add_zero] at c1
        have i2 : (0 : Int) < (xs.length : Int) := by omega
        rw [show ((0 : Nat) : Int) = 0 from rfl]
        have HX := Lib.hid hx
        clear hx
        cases hv : inB x 0 (n - 1) with
        | false =>
          have HV : Hid (∀ W, Calls Try.prog 52 #[.int .i64 x, .int .i64 0, .int .i64 (n - 1)] W fun (e : Ending) w' => e = .returned (.bool false) ∧ W = w') := Lib.hid fun W => within_lit false x 0 (n - 1) W hv
          have HE := Lib.hid (setAt_bad0 HX.out hv)
          clear hv
          go_wp2_with (go_at_call 52; refine (HV.out _).mono ?_; rintro e w1 ⟨rfl, rfl⟩)
          go_ret
          exact ⟨ret_bool (by rw [heq.out, HE.out]), (by first | exact hb | exact hb.more _)⟩
        | true =>
          have HV : Hid (∀ W, Calls Try.prog 52 #[.int .i64 x, .int .i64 0, .int .i64 (n - 1)] W fun (e : Ending) w' => e = .returned (.bool true) ∧ W = w') := Lib.hid fun W => within_lit true x 0 (n - 1) W hv
          have HE := Lib.hid (setAt_ok0 HX.out hv)
          clear hv
          go_wp2_with (go_at_call 52; refine (HV.out _).mono ?_; rintro e w1 ⟨rfl, rfl⟩)
          go_roundw
          case rel => exact ⟨1, by omega, by go_num, (by first | exact hb | exact hb.more _), Lib.hid (by rw [heq.out, HE.out])⟩
          case measure => simp [intOf]; omega
      | succ k =>
        obtain ⟨p, hp⟩ := get_some (xs := xs) (k := k) (by omega)
        obtain ⟨b, o, rfl, hbb, c1⟩ := (hb.rd h1).int hx
        obtain ⟨_, _, ⟨⟩, _, c2⟩ := (hb.rd h1).int hp
        have i1 : (0 : Int) ≤ (k : Int) := by omega
        have i2 : (k : Int) + 1 < (xs.length : Int) := by omega
        have i3 : (k : Int) < (xs.length : Int) := by omega
        have i4 : (0 : Int) < (k : Int) + 1 := by omega
        have i5 : (0 : Int) ≤ (k : Int) + 1 := by omega
        have HX := Lib.hid hx
        have HP := Lib.hid hp
        clear hx hp
        cases hv : inB x 0 (n - 1) with
        | false =>
          have HV : Hid (∀ W, Calls Try.prog 52 #[.int .i64 x, .int .i64 0, .int .i64 (n - 1)] W fun (e : Ending) w' => e = .returned (.bool false) ∧ W = w') := Lib.hid fun W => within_lit false x 0 (n - 1) W hv
          have HE := Lib.hid (setAt_bad1 HP.out HX.out hv)
          clear hv
          go_wp2_with (go_at_call 52; refine (HV.out _).mono ?_; rintro e w1 ⟨rfl, rfl⟩)
          go_ret
          exact ⟨ret_bool (by rw [heq.out, HE.out]), (by first | exact hb | exact hb.more _)⟩
        | true =>
          have HV : Hid (∀ W, Calls Try.prog 52 #[.int .i64 x, .int .i64 0, .int .i64 (n - 1)] W fun (e : Ending) w' => e = .returned (.bool true) ∧ W = w') := Lib.hid fun W => within_lit true x 0 (n - 1) W hv
          by_cases hpx : p < x
          · have HE := Lib.hid (setAt_ok1 HP.out HX.out hv hpx)
            clear hv
            have hq : decide (x ≤ p) = false := by simp; omega
            go_wp2_with (go_at_call 52; refine (HV.out _).mono ?_; rintro e w1 ⟨rfl, rfl⟩)
            go_roundw
            case rel => exact ⟨k + 1 + 1, by omega, by go_num, (by first | exact hb | exact hb.more _), Lib.hid (by rw [heq.out, HE.out])⟩
            case measure => simp [intOf]; omega
          · have HE := Lib.hid (setAt_bad2 HP.out HX.out hv hpx)
            clear hv
            have hq : decide (x ≤ p) = true := by simp; omega
            go_wp2_with (go_at_call 52; refine (HV.out _).mono ?_; rintro e w1 ⟨rfl, rfl⟩)
            go_ret
            exact ⟨ret_bool (by rw [heq.out, HE.out]), (by first | exact hb | exact hb.more _)⟩
    · obtain rfl : k = xs.length := by omega
      go_wp2
      go_ret
      exact ⟨ret_bool (by rw [heq.out, setAt_end]), hb⟩

theorem l00Rises (A : Option Addr) (xs : List Int) (c : Nat) (lo hi : Int) (w : World) (h1 : RdS w w.heap.size A xs) (hl : xs.length ≤ 1048576) :
    Calls Try.prog 60 #[.slice A xs.length c, .int .i64 lo, .int .i64 hi] w fun e w' => e = .returned (.bool (setB lo hi xs)) ∧ ∃ m, w' = w.drewN m := by
  go_enter Try.func60, Try.ntmps60
  go_wp2
  go_loopw [7] (fun i wr => ∃ k : Nat, k ≤ xs.length ∧ i = .int .i64 k ∧ Drew w wr ∧ Hid (setB lo hi xs = setAt lo hi xs k)) (fun i _ => xs.length - (intOf i).toNat)
  case atStart => exact ⟨0, Nat.zero_le _, rfl, ⟨0, rfl⟩, Lib.hid (setAt_zero _ _ _)⟩
  case round =>
    obtain ⟨k, hk, rfl, hb, heq⟩ := hrel
    by_cases hlt : k < xs.length
    · obtain ⟨x, hx⟩ := get_some hlt
      cases k with
      | zero =>
        obtain ⟨b, o, rfl, hbb, c1⟩ := (hb.rd h1).int hx
        rw [Nat.add_zero] at c1
        have i2 : (0 : Int) < (xs.length : Int) := by omega
        rw [show ((0 : Nat) : Int) = 0 from rfl]
        have HX := Lib.hid hx
        clear hx
        cases hv : inB x lo hi with
        | false =>
          have HV : Hid (∀ W, Calls Try.prog 59 #[.int .i64 x, .int .i64 lo, .int .i64 hi] W fun (e : Ending) w' => e = .returned (.bool false) ∧ W = w') := Lib.hid fun W => l00In_lit false x lo hi W hv
          have HE := Lib.hid (setAt_bad0 HX.out hv)
          clear hv
          go_wp2
          go_quiet ((go_at_call 59; exact Calls.quiet_of_same ((HV.out _).mono fun _ _ h => ⟨h.1, h.2.symm⟩)))
          go_wp2
          go_ret
          exact ⟨ret_bool (by rw [heq.out, HE.out]), (by first | exact hb | exact hb.more _)⟩
        | true =>
          have HV : Hid (∀ W, Calls Try.prog 59 #[.int .i64 x, .int .i64 lo, .int .i64 hi] W fun (e : Ending) w' => e = .returned (.bool true) ∧ W = w') := Lib.hid fun W => l00In_lit true x lo hi W hv
          have HE := Lib.hid (setAt_ok0 HX.out hv)
          clear hv
          go_wp2
          go_quiet ((go_at_call 59; exact Calls.quiet_of_same ((HV.out _).mono fun _ _ h => ⟨h.1, h.2.symm⟩)))
          go_wp2
          go_roundw
          case rel => exact ⟨1, by omega, by go_num, (by first | exact hb | exact hb.more _), Lib.hid (by rw [heq.out, HE.out])⟩
          case measure => simp [intOf]; omega
      | succ k =>
        obtain ⟨p, hp⟩ := get_some (xs := xs) (k := k) (by omega)
        obtain ⟨b, o, rfl, hbb, c1⟩ := (hb.rd h1).int hx
        obtain ⟨_, _, ⟨⟩, _, c2⟩ := (hb.rd h1).int hp
        have i1 : (0 : Int) ≤ (k : Int) := by omega
        have i2 : (k : Int) + 1 < (xs.length : Int) := by omega
        have i3 : (k : Int) < (xs.length : Int) := by omega
        have i4 : (0 : Int) < (k : Int) + 1 := by omega
        have i5 : (0 : Int) ≤ (k : Int) + 1 := by omega
        have HX := Lib.hid hx
        have HP := Lib.hid hp
        clear hx hp
        cases hv : inB x lo hi with
        | false =>
          have HV : Hid (∀ W, Calls Try.prog 59 #[.int .i64 x, .int .i64 lo, .int .i64 hi] W fun (e : Ending) w' => e = .returned (.bool false) ∧ W = w') := Lib.hid fun W => l00In_lit false x lo hi W hv
          have HE := Lib.hid (setAt_bad1 HP.out HX.out hv)
          clear hv
          go_wp2
          go_quiet ((go_at_call 59; exact Calls.quiet_of_same ((HV.out _).mono fun _ _ h => ⟨h.1, h.2.symm⟩)))
          go_wp2
          go_ret
          exact ⟨ret_bool (by rw [heq.out, HE.out]), (by first | exact hb | exact hb.more _)⟩
        | true =>
          have HV : Hid (∀ W, Calls Try.prog 59 #[.int .i64 x, .int .i64 lo, .int .i64 hi] W fun (e : Ending) w' => e = .returned (.bool true) ∧ W = w') := Lib.hid fun W => l00In_lit true x lo hi W hv
          by_cases hpx : p < x
          · have HE := Lib.hid (setAt_ok1 HP.out HX.out hv hpx)
            clear hv
            have hq : decide (x ≤ p) = false := by simp; omega
            go_wp2
            go_quiet ((go_at_call 59; exact Calls.quiet_of_same ((HV.out _).mono fun _ _ h => ⟨h.1, h.2.symm⟩)))
            go_wp2
            go_roundw
            case rel => exact ⟨k + 1 + 1, by omega, by go_num, (by first | exact hb | exact hb.more _), Lib.hid (by rw [heq.out, HE.out])⟩
            case measure => simp [intOf]; omega
          · have HE := Lib.hid (setAt_bad2 HP.out HX.out hv hpx)
            clear hv
            have hq : decide (x ≤ p) = true := by simp; omega
            go_wp2
            go_quiet ((go_at_call 59; exact Calls.quiet_of_same ((HV.out _).mono fun _ _ h => ⟨h.1, h.2.symm⟩)))
            go_wp2
            go_ret
            exact ⟨ret_bool (by rw [heq.out, HE.out]), (by first | exact hb | exact hb.more _)⟩
    · obtain rfl : k = xs.length := by omega
      go_wp2
      go_ret
      exact ⟨ret_bool (by rw [heq.out, setAt_end]), hb⟩
end Go.Proofs.Ytpknkaidmefenaa
