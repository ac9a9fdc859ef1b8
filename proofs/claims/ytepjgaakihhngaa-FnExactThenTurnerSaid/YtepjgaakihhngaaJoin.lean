/-
  Contracts of the program's and the reference's JoinTables. Conditions: those in each statement.
-/
import Derived.Test.YtepjgaakihhngaaAcc
import Derived.Test.YtepjgaakihhngaaTurnT
set_option linter.unusedVariables false
set_option linter.unusedSimpArgs false
set_option maxRecDepth 100000
set_option maxHeartbeats 1000000
namespace Go.Proofs.Ytepjgaakihhngaa
open Go.RowKit

/-- where one goes out of two words, in so many steps -/
def btw (xr yl : List (Int × Int)) : Nat → Int × Int → Bool → Int × Int
  | 0, _, _ => (0, -3)
  | k + 1, e, left => if e.1 = 0 then e else if left = true ∧ e.1 = -1 then e else if left = false ∧ e.1 = 1 then e
      else if left = true then btw xr yl k (yl.getD e.2.toNat (0, -3)) false else btw xr yl k (xr.getD e.2.toNat (0, -3)) true
/-- an exit that stops, or leads to one of the states that both have -/
def ExIn (a b : Nat) (x : Int × Int) : Prop := x.1 = 0 ∨ ((x.1 = -1 ∨ x.1 = 1) ∧ 0 ≤ x.2 ∧ x.2 < a ∧ x.2 < b)
theorem btw_in (xr yl : List (Int × Int)) (k : Nat) (t : Int) (l : Bool) : btw xr yl (k + 1) (0, t) l = (0, t) := by simp [btw]
theorem btw_l (xr yl : List (Int × Int)) (k : Nat) (t : Int) : btw xr yl (k + 1) (-1, t) true = (-1, t) := by simp [btw]
theorem btw_r (xr yl : List (Int × Int)) (k : Nat) (t : Int) : btw xr yl (k + 1) (1, t) false = (1, t) := by simp [btw]
theorem btw_go_r (xr yl : List (Int × Int)) (k t : Nat) {y : Int × Int} (h : yl[t]? = some y) : btw xr yl (k + 1) (1, (t : Int)) true = btw xr yl k y false := by simp [btw, h]
theorem btw_go_l (xr yl : List (Int × Int)) (k t : Nat) {y : Int × Int} (h : xr[t]? = some y) : btw xr yl (k + 1) (-1, (t : Int)) false = btw xr yl k y true := by simp [btw, h]

theorem l03Between (b d : Nat) (A A' D D' : Option Addr) (T U : Tb) (c c' f f' : Nat) (x : Int × Int) (left : Bool) (w : World) (k1 : w.cell? ⟨b, 0, none⟩ = some (.slice A T.l.length c)) (k2 : w.cell? ⟨b, 1, none⟩ = some (.slice A' T.r.length c')) (hb : b < w.heap.size)
    (k3 : w.cell? ⟨d, 0, none⟩ = some (.slice D U.l.length f)) (k4 : w.cell? ⟨d, 1, none⟩ = some (.slice D' U.r.length f')) (hd : d < w.heap.size)
    (r2 : RdS w w.heap.size A' T.r) (r3 : RdS w w.heap.size D U.l) (hn : T.l.length ≤ 1048576) (hx : ExIn U.l.length T.r.length x) (hu : ∀ y ∈ U.l, ExIn U.l.length T.r.length y) (ht : ∀ y ∈ T.r, ExIn U.l.length T.r.length y) :
    Calls Try.prog 166 #[.pointer (some ⟨b, 0, none⟩), .pointer (some ⟨d, 0, none⟩), .agg #[.int .i64 x.1, .int .i64 x.2], .bool left] w fun e w' => e = .returned (.agg #[.int .i64 (btw T.r U.l (2 * T.l.length + 1) x left).1, .int .i64 (btw T.r U.l (2 * T.l.length + 1) x left).2]) ∧ Below w.heap.size w w' := by
  have HU := Lib.hid hu
  have HT := Lib.hid ht
  have HX := Lib.hid hx
  clear hu ht hx
  go_enter Try.func166, Try.ntmps166
  go_wp2
  go_loopw [3, 9] (fun q i wr => ∃ (k : Nat) (e : Int × Int) (l : Bool), k ≤ 2 * T.l.length + 1 ∧ i = .int .i64 k ∧ q = .bool l ∧ Hid (ExIn U.l.length T.r.length e) ∧ Hid (btw T.r U.l (2 * T.l.length + 1) x left = btw T.r U.l (2 * T.l.length + 1 - k) e l) ∧
      wr.cell? ⟨w.heap.size, 0, none⟩ = some (.int .i64 e.1) ∧ wr.cell? ⟨w.heap.size, 1, none⟩ = some (.int .i64 e.2) ∧ wr.cell? ⟨w.heap.size + 1, 0, none⟩ = some (.int .i64 0) ∧ wr.cell? ⟨w.heap.size + 1, 1, none⟩ = some (.int .i64 0) ∧ wr.frozen? ⟨w.heap.size, 0, none⟩ = false ∧ wr.frozen? ⟨w.heap.size, 1, none⟩ = false ∧ wr.frozen? ⟨w.heap.size + 1, 0, none⟩ = false ∧ wr.frozen? ⟨w.heap.size + 1, 1, none⟩ = false ∧ w.heap.size + 2 ≤ wr.heap.size ∧ Since w wr)
      (fun _ i _ => 2 * T.l.length + 2 - (intOf i).toNat)
  case atStart => exact ⟨0, x, left, by omega, rfl, rfl, HX, Lib.hid rfl, by go_simp, by go_simp, by go_simp, by go_simp, by go_simp, by go_simp, by go_simp, by go_simp, by simp, ⟨(by repeat (first | exact Below.refl _ _ | refine Below.alloc ?_ (by first | omega | (simp only [sz_alloc, sz_set, sz_drew, sz_drewN]; omega) | (simp only [sz_alloc, sz_set, sz_drew, sz_drewN] at *; omega)) _ | refine Below.setCell ?_ (by first | omega | (simp only [sz_alloc, sz_set, sz_drew, sz_drewN]; omega) | (simp only [sz_alloc, sz_set, sz_drew, sz_drewN] at *; omega)) _ | refine Below.drew ?_ | refine below_drewN_ ?_ _))⟩⟩
  case round =>
    obtain ⟨k, ⟨s, q⟩, l, hk, rfl, rfl, hex, heq, ce0, ce1, cr0, cr1, fe0, fe1, fr0, fr1, hsz, hsw⟩ := hrel
    have m1 : wr.cell? ⟨b, 0, none⟩ = some (.slice A T.l.length c) := (hsw.out.cell hb).trans k1
    have m2 : wr.cell? ⟨b, 1, none⟩ = some (.slice A' T.r.length c') := (hsw.out.cell hb).trans k2
    have m3 : wr.cell? ⟨d, 0, none⟩ = some (.slice D U.l.length f) := (hsw.out.cell hd).trans k3
    have m4 : wr.cell? ⟨d, 1, none⟩ = some (.slice D' U.r.length f') := (hsw.out.cell hd).trans k4
    have ne1 : b ≠ w.heap.size := by omega
    have ne2 : d ≠ w.heap.size := by omega
    clear k1 k2 k3 k4
    by_cases hlt : k ≤ 2 * T.l.length
    · obtain ⟨j, hj⟩ : ∃ j, 2 * T.l.length + 1 - k = j + 1 := ⟨2 * T.l.length - k, by omega⟩
      have i2 : (k : Int) ≤ 2 * (T.l.length : Int) := by omega
      rw [hj] at heq
      have HJ := Lib.hid hj
      clear hj
      rcases hex.out with rfl | ⟨rfl | rfl, hq0, hq1, hq2⟩
      · clear hex
        have he := heq.out
        rw [btw_in] at he
        have HE := Lib.hid he
        clear he heq
        go_wp2
        exact bodyPost_ret (v := .agg #[.int .i64 0, .int .i64 q]) (by simp [results, Try.results166, go_sem, *]) rfl ⟨by rw [HE.out], (by repeat (first | exact Below.refl _ _ | exact Since.out (by assumption) | refine Below.alloc ?_ (by first | omega | (simp only [sz_alloc, sz_set, sz_drew, sz_drewN]; omega) | (simp only [sz_alloc, sz_set, sz_drew, sz_drewN] at *; omega)) _ | refine Below.setCell ?_ (by first | omega | (simp only [sz_alloc, sz_set, sz_drew, sz_drewN]; omega) | (simp only [sz_alloc, sz_set, sz_drew, sz_drewN] at *; omega)) _ | refine Below.drew ?_ | refine below_drewN_ ?_ _))⟩
      · clear hex
        cases l with
        | true =>
          have he := heq.out
          rw [btw_l] at he
          have HE := Lib.hid he
          clear he heq
          go_wp2
          exact bodyPost_ret (v := .agg #[.int .i64 (-1), .int .i64 q]) (by simp [results, Try.results166, go_sem, *]) rfl ⟨by rw [HE.out], (by repeat (first | exact Below.refl _ _ | exact Since.out (by assumption) | refine Below.alloc ?_ (by first | omega | (simp only [sz_alloc, sz_set, sz_drew, sz_drewN]; omega) | (simp only [sz_alloc, sz_set, sz_drew, sz_drewN] at *; omega)) _ | refine Below.setCell ?_ (by first | omega | (simp only [sz_alloc, sz_set, sz_drew, sz_drewN]; omega) | (simp only [sz_alloc, sz_set, sz_drew, sz_drewN] at *; omega)) _ | refine Below.drew ?_ | refine below_drewN_ ?_ _))⟩
        | false =>
          obtain ⟨t, rfl⟩ := Int.eq_ofNat_of_zero_le hq0
          obtain ⟨y, hy⟩ := get_some (xs := T.r) (k := t) (by omega)
          have he := heq.out
          rw [btw_go_l _ _ _ _ hy] at he
          have HE := Lib.hid he
          have HY := Lib.hid (HT.out y (List.mem_of_getElem? hy))
          obtain ⟨g, o, rfl, hg, c1, c2⟩ := (r2.below hsw.out (Nat.le_refl _)).pair hy
          have ne3 : g ≠ w.heap.size := by omega
          clear he heq hy
          have i3 : (0 : Int) ≤ (t : Int) := by omega
          go_wp2
          go_region
          go_wp2
          go_roundw
          case rel => exact ⟨k + 1, y, true, by omega, by go_num, rfl, HY, Lib.hid (by rw [HE.out]; congr 1; have := HJ.out; omega), by go_simp, by go_simp, by go_simp, by go_simp, by go_simp, by go_simp, by go_simp, by go_simp, by simp only [sz_set, sz_drew, sz_drewN]; omega, ⟨(by repeat (first | exact Below.refl _ _ | exact Since.out (by assumption) | refine Below.alloc ?_ (by first | omega | (simp only [sz_alloc, sz_set, sz_drew, sz_drewN]; omega) | (simp only [sz_alloc, sz_set, sz_drew, sz_drewN] at *; omega)) _ | refine Below.setCell ?_ (by first | omega | (simp only [sz_alloc, sz_set, sz_drew, sz_drewN]; omega) | (simp only [sz_alloc, sz_set, sz_drew, sz_drewN] at *; omega)) _ | refine Below.drew ?_ | refine below_drewN_ ?_ _))⟩⟩
          case measure => simp [intOf]; omega
      · clear hex
        cases l with
        | false =>
          have he := heq.out
          rw [btw_r] at he
          have HE := Lib.hid he
          clear he heq
          go_wp2
          exact bodyPost_ret (v := .agg #[.int .i64 1, .int .i64 q]) (by simp [results, Try.results166, go_sem, *]) rfl ⟨by rw [HE.out], (by repeat (first | exact Below.refl _ _ | exact Since.out (by assumption) | refine Below.alloc ?_ (by first | omega | (simp only [sz_alloc, sz_set, sz_drew, sz_drewN]; omega) | (simp only [sz_alloc, sz_set, sz_drew, sz_drewN] at *; omega)) _ | refine Below.setCell ?_ (by first | omega | (simp only [sz_alloc, sz_set, sz_drew, sz_drewN]; omega) | (simp only [sz_alloc, sz_set, sz_drew, sz_drewN] at *; omega)) _ | refine Below.drew ?_ | refine below_drewN_ ?_ _))⟩
        | true =>
          obtain ⟨t, rfl⟩ := Int.eq_ofNat_of_zero_le hq0
          obtain ⟨y, hy⟩ := get_some (xs := U.l) (k := t) (by omega)
          have he := heq.out
          rw [btw_go_r _ _ _ _ hy] at he
          have HE := Lib.hid he
          have HY := Lib.hid (HU.out y (List.mem_of_getElem? hy))
          obtain ⟨g, o, rfl, hg, c1, c2⟩ := (r3.below hsw.out (Nat.le_refl _)).pair hy
          have ne3 : g ≠ w.heap.size := by omega
          clear he heq hy
          have i3 : (0 : Int) ≤ (t : Int) := by omega
          go_wp2
          go_region
          go_wp2
          go_roundw
          case rel => exact ⟨k + 1, y, false, by omega, by go_num, rfl, HY, Lib.hid (by rw [HE.out]; congr 1; have := HJ.out; omega), by go_simp, by go_simp, by go_simp, by go_simp, by go_simp, by go_simp, by go_simp, by go_simp, by simp only [sz_set, sz_drew, sz_drewN]; omega, ⟨(by repeat (first | exact Below.refl _ _ | exact Since.out (by assumption) | refine Below.alloc ?_ (by first | omega | (simp only [sz_alloc, sz_set, sz_drew, sz_drewN]; omega) | (simp only [sz_alloc, sz_set, sz_drew, sz_drewN] at *; omega)) _ | refine Below.setCell ?_ (by first | omega | (simp only [sz_alloc, sz_set, sz_drew, sz_drewN]; omega) | (simp only [sz_alloc, sz_set, sz_drew, sz_drewN] at *; omega)) _ | refine Below.drew ?_ | refine below_drewN_ ?_ _))⟩⟩
          case measure => simp [intOf]; omega
    · obtain rfl : k = 2 * T.l.length + 1 := by omega
      have he := heq.out
      rw [Nat.sub_self] at he
      have HE := Lib.hid he
      clear he heq
      go_wp2
      exact bodyPost_ret (v := .agg #[.int .i64 0, .int .i64 (-3)]) (by simp [results, Try.results166, go_sem, *]) rfl ⟨by rw [HE.out]; rfl, (by repeat (first | exact Below.refl _ _ | exact Since.out (by assumption) | refine Below.alloc ?_ (by first | omega | (simp only [sz_alloc, sz_set, sz_drew, sz_drewN]; omega) | (simp only [sz_alloc, sz_set, sz_drew, sz_drewN] at *; omega)) _ | refine Below.setCell ?_ (by first | omega | (simp only [sz_alloc, sz_set, sz_drew, sz_drewN]; omega) | (simp only [sz_alloc, sz_set, sz_drew, sz_drewN] at *; omega)) _ | refine Below.drew ?_ | refine below_drewN_ ?_ _))⟩
theorem onExit (w : World) : Calls Try.prog 168 #[] w fun e w' => e = .returned (.agg #[.int .i64 0, .int .i64 (-3)]) ∧ Below w.heap.size w w' := by
  go_enter Try.func168, Try.ntmps168
  go_wp2
  exact bodyPost_ret (v := .agg #[.int .i64 0, .int .i64 (-3)]) (by simp [results, Try.results168, go_sem, *]) rfl ⟨rfl, (by repeat (first | exact Below.refl _ _ | exact Since.out (by assumption) | refine Below.alloc ?_ (by first | omega | (simp only [sz_alloc, sz_set, sz_drew, sz_drewN]; omega) | (simp only [sz_alloc, sz_set, sz_drew, sz_drewN] at *; omega)) _ | refine Below.setCell ?_ (by first | omega | (simp only [sz_alloc, sz_set, sz_drew, sz_drewN]; omega) | (simp only [sz_alloc, sz_set, sz_drew, sz_drewN] at *; omega)) _ | refine Below.drew ?_ | refine below_drewN_ ?_ _))⟩

theorem between (A A' D D' : Option Addr) (T U : Tb) (c c' f f' : Nat) (x : Int × Int) (left : Bool) (w : World)
    (r2 : RdS w w.heap.size A' T.r) (r3 : RdS w w.heap.size D U.l) (hn : T.l.length ≤ 1048576) (hx : ExIn U.l.length T.r.length x) (hu : ∀ y ∈ U.l, ExIn U.l.length T.r.length y) (ht : ∀ y ∈ T.r, ExIn U.l.length T.r.length y) :
    Calls Try.prog 149 #[.agg #[.slice A T.l.length c, .slice A' T.r.length c'], .agg #[.slice D U.l.length f, .slice D' U.r.length f'], .agg #[.int .i64 x.1, .int .i64 x.2], .bool left] w fun e w' => e = .returned (.agg #[.int .i64 (btw T.r U.l (2 * T.l.length + 2) x left).1, .int .i64 (btw T.r U.l (2 * T.l.length + 2) x left).2]) ∧ Below w.heap.size w w' := by
  have HU := Lib.hid hu
  have HT := Lib.hid ht
  have HX := Lib.hid hx
  clear hu ht hx
  go_enter Try.func149, Try.ntmps149
  go_wp2
  go_loopw [3, 14] (fun q i wr => ∃ (k : Nat) (e : Int × Int) (l : Bool), k ≤ 2 * T.l.length + 2 ∧ i = .int .i64 k ∧ q = .bool l ∧ Hid (ExIn U.l.length T.r.length e) ∧ Hid (btw T.r U.l (2 * T.l.length + 2) x left = btw T.r U.l (2 * T.l.length + 2 - k) e l) ∧
      wr.cell? ⟨w.heap.size + 1 + 1, 0, none⟩ = some (.int .i64 e.1) ∧ wr.cell? ⟨w.heap.size + 1 + 1, 1, none⟩ = some (.int .i64 e.2) ∧ wr.cell? ⟨w.heap.size + 1 + 1 + 1, 0, none⟩ = some (.int .i64 0) ∧ wr.cell? ⟨w.heap.size + 1 + 1 + 1, 1, none⟩ = some (.int .i64 0) ∧ wr.frozen? ⟨w.heap.size + 1 + 1, 0, none⟩ = false ∧ wr.frozen? ⟨w.heap.size + 1 + 1, 1, none⟩ = false ∧ wr.frozen? ⟨w.heap.size + 1 + 1 + 1, 0, none⟩ = false ∧ wr.frozen? ⟨w.heap.size + 1 + 1 + 1, 1, none⟩ = false ∧ wr.cell? ⟨w.heap.size, 0, none⟩ = some (.slice A T.l.length c) ∧ wr.cell? ⟨w.heap.size, 1, none⟩ = some (.slice A' T.r.length c') ∧ wr.cell? ⟨w.heap.size + 1, 0, none⟩ = some (.slice D U.l.length f) ∧ wr.cell? ⟨w.heap.size + 1, 1, none⟩ = some (.slice D' U.r.length f') ∧ w.heap.size + 4 ≤ wr.heap.size ∧ Since w wr)
      (fun _ i _ => 2 * T.l.length + 3 - (intOf i).toNat)
  case atStart => exact ⟨0, x, left, by omega, rfl, rfl, HX, Lib.hid rfl, by go_simp, by go_simp, by go_simp, by go_simp, by go_simp, by go_simp, by go_simp, by go_simp, by go_simp, by go_simp, by go_simp, by go_simp, by simp, ⟨(by repeat (first | exact Below.refl _ _ | refine Below.alloc ?_ (by first | omega | (simp only [sz_alloc, sz_set, sz_drew, sz_drewN]; omega) | (simp only [sz_alloc, sz_set, sz_drew, sz_drewN] at *; omega)) _ | refine Below.setCell ?_ (by first | omega | (simp only [sz_alloc, sz_set, sz_drew, sz_drewN]; omega) | (simp only [sz_alloc, sz_set, sz_drew, sz_drewN] at *; omega)) _ | refine Below.drew ?_ | refine below_drewN_ ?_ _))⟩⟩
  case round =>
    obtain ⟨k, ⟨s, q⟩, l, hk, rfl, rfl, hex, heq, ce0, ce1, cr0, cr1, fe0, fe1, fr0, fr1, m1, m2, m3, m4, hsz, hsw⟩ := hrel
    by_cases hlt : k ≤ 2 * T.l.length + 1
    · obtain ⟨j, hj⟩ : ∃ j, 2 * T.l.length + 2 - k = j + 1 := ⟨2 * T.l.length + 1 - k, by omega⟩
      have i2 : (k : Int) < 2 * (T.l.length : Int) + 2 := by omega
      rw [hj] at heq
      have HJ := Lib.hid hj
      clear hj
      rcases hex.out with rfl | ⟨rfl | rfl, hq0, hq1, hq2⟩
      · clear hex
        have he := heq.out
        rw [btw_in] at he
        have HE := Lib.hid he
        clear he heq
        go_wp2
        exact bodyPost_ret (v := .agg #[.int .i64 0, .int .i64 q]) (by simp [results, Try.results149, go_sem, *]) rfl ⟨by rw [HE.out], (by repeat (first | exact Below.refl _ _ | exact Since.out (by assumption) | refine Below.alloc ?_ (by first | omega | (simp only [sz_alloc, sz_set, sz_drew, sz_drewN]; omega) | (simp only [sz_alloc, sz_set, sz_drew, sz_drewN] at *; omega)) _ | refine Below.setCell ?_ (by first | omega | (simp only [sz_alloc, sz_set, sz_drew, sz_drewN]; omega) | (simp only [sz_alloc, sz_set, sz_drew, sz_drewN] at *; omega)) _ | refine Below.drew ?_ | refine below_drewN_ ?_ _))⟩
      · clear hex
        cases l with
        | true =>
          have he := heq.out
          rw [btw_l] at he
          have HE := Lib.hid he
          clear he heq
          go_wp2
          exact bodyPost_ret (v := .agg #[.int .i64 (-1), .int .i64 q]) (by simp [results, Try.results149, go_sem, *]) rfl ⟨by rw [HE.out], (by repeat (first | exact Below.refl _ _ | exact Since.out (by assumption) | refine Below.alloc ?_ (by first | omega | (simp only [sz_alloc, sz_set, sz_drew, sz_drewN]; omega) | (simp only [sz_alloc, sz_set, sz_drew, sz_drewN] at *; omega)) _ | refine Below.setCell ?_ (by first | omega | (simp only [sz_alloc, sz_set, sz_drew, sz_drewN]; omega) | (simp only [sz_alloc, sz_set, sz_drew, sz_drewN] at *; omega)) _ | refine Below.drew ?_ | refine below_drewN_ ?_ _))⟩
        | false =>
          obtain ⟨t, rfl⟩ := Int.eq_ofNat_of_zero_le hq0
          obtain ⟨y, hy⟩ := get_some (xs := T.r) (k := t) (by omega)
          have he := heq.out
          rw [btw_go_l _ _ _ _ hy] at he
          have HE := Lib.hid he
          have HY := Lib.hid (HT.out y (List.mem_of_getElem? hy))
          obtain ⟨g, o, rfl, hg, c1, c2⟩ := (r2.below hsw.out (Nat.le_refl _)).pair hy
          have ne3 : g ≠ w.heap.size + 1 + 1 := by omega
          clear he heq hy
          have i3 : (0 : Int) ≤ (t : Int) := by omega
          go_wp2
          go_roundw
          case rel => exact ⟨k + 1, y, true, by omega, by go_num, rfl, HY, Lib.hid (by rw [HE.out]; congr 1; have := HJ.out; omega), by go_simp, by go_simp, by go_simp, by go_simp, by go_simp, by go_simp, by go_simp, by go_simp, by go_simp, by go_simp, by go_simp, by go_simp, by simp only [sz_set, sz_drew, sz_drewN]; omega, ⟨(by repeat (first | exact Below.refl _ _ | exact Since.out (by assumption) | refine Below.alloc ?_ (by first | omega | (simp only [sz_alloc, sz_set, sz_drew, sz_drewN]; omega) | (simp only [sz_alloc, sz_set, sz_drew, sz_drewN] at *; omega)) _ | refine Below.setCell ?_ (by first | omega | (simp only [sz_alloc, sz_set, sz_drew, sz_drewN]; omega) | (simp only [sz_alloc, sz_set, sz_drew, sz_drewN] at *; omega)) _ | refine Below.drew ?_ | refine below_drewN_ ?_ _))⟩⟩
          case measure => simp [intOf]; omega
      · clear hex
        cases l with
        | false =>
          have he := heq.out
          rw [btw_r] at he
          have HE := Lib.hid he
          clear he heq
          go_wp2
          exact bodyPost_ret (v := .agg #[.int .i64 1, .int .i64 q]) (by simp [results, Try.results149, go_sem, *]) rfl ⟨by rw [HE.out], (by repeat (first | exact Below.refl _ _ | exact Since.out (by assumption) | refine Below.alloc ?_ (by first | omega | (simp only [sz_alloc, sz_set, sz_drew, sz_drewN]; omega) | (simp only [sz_alloc, sz_set, sz_drew, sz_drewN] at *; omega)) _ | refine Below.setCell ?_ (by first | omega | (simp only [sz_alloc, sz_set, sz_drew, sz_drewN]; omega) | (simp only [sz_alloc, sz_set, sz_drew, sz_drewN] at *; omega)) _ | refine Below.drew ?_ | refine below_drewN_ ?_ _))⟩
        | true =>
          obtain ⟨t, rfl⟩ := Int.eq_ofNat_of_zero_le hq0
          obtain ⟨y, hy⟩ := get_some (xs := U.l) (k := t) (by omega)
          have he := heq.out
          rw [btw_go_r _ _ _ _ hy] at he
          have HE := Lib.hid he
          have HY := Lib.hid (HU.out y (List.mem_of_getElem? hy))
          obtain ⟨g, o, rfl, hg, c1, c2⟩ := (r3.below hsw.out (Nat.le_refl _)).pair hy
          have ne3 : g ≠ w.heap.size + 1 + 1 := by omega
          clear he heq hy
          have i3 : (0 : Int) ≤ (t : Int) := by omega
          go_wp2
          go_roundw
          case rel => exact ⟨k + 1, y, false, by omega, by go_num, rfl, HY, Lib.hid (by rw [HE.out]; congr 1; have := HJ.out; omega), by go_simp, by go_simp, by go_simp, by go_simp, by go_simp, by go_simp, by go_simp, by go_simp, by go_simp, by go_simp, by go_simp, by go_simp, by simp only [sz_set, sz_drew, sz_drewN]; omega, ⟨(by repeat (first | exact Below.refl _ _ | exact Since.out (by assumption) | refine Below.alloc ?_ (by first | omega | (simp only [sz_alloc, sz_set, sz_drew, sz_drewN]; omega) | (simp only [sz_alloc, sz_set, sz_drew, sz_drewN] at *; omega)) _ | refine Below.setCell ?_ (by first | omega | (simp only [sz_alloc, sz_set, sz_drew, sz_drewN]; omega) | (simp only [sz_alloc, sz_set, sz_drew, sz_drewN] at *; omega)) _ | refine Below.drew ?_ | refine below_drewN_ ?_ _))⟩⟩
          case measure => simp [intOf]; omega
    · obtain rfl : k = 2 * T.l.length + 2 := by omega
      have he := heq.out
      rw [Nat.sub_self] at he
      have HE := Lib.hid he
      clear he heq
      go_wp2_with fail
      refine (onExit _).mono ?_
      rintro e w1 ⟨rfl, hb1⟩
      have HB1 : Since w w1 := ⟨below_cat (by repeat (first | exact Below.refl _ _ | exact Since.out (by assumption) | refine Below.alloc ?_ (by first | omega | (simp only [sz_alloc, sz_set, sz_drew, sz_drewN]; omega) | (simp only [sz_alloc, sz_set, sz_drew, sz_drewN] at *; omega)) _ | refine Below.setCell ?_ (by first | omega | (simp only [sz_alloc, sz_set, sz_drew, sz_drewN]; omega) | (simp only [sz_alloc, sz_set, sz_drew, sz_drewN] at *; omega)) _ | refine Below.drew ?_ | refine below_drewN_ ?_ _)) hb1 (by first | omega | (simp only [sz_alloc, sz_set, sz_drew, sz_drewN]; omega) | (simp only [sz_alloc, sz_set, sz_drew, sz_drewN] at *; omega))⟩
      have hz1 := hb1.size
      have hcw1a := fun o => hb1.cell (p := ⟨w.heap.size + 1 + 1 + 1, o, none⟩) (by first | omega | (simp only [sz_alloc, sz_set, sz_drew, sz_drewN]; omega) | (simp only [sz_alloc, sz_set, sz_drew, sz_drewN] at *; omega)); have hfw1a := fun o => hb1.frozen (p := ⟨w.heap.size + 1 + 1 + 1, o, none⟩) (by first | omega | (simp only [sz_alloc, sz_set, sz_drew, sz_drewN]; omega) | (simp only [sz_alloc, sz_set, sz_drew, sz_drewN] at *; omega)); have hlw1a : w.heap.size + 1 + 1 + 1 < _ := Nat.lt_of_lt_of_le (m := _) (by first | omega | (simp only [sz_alloc, sz_set, sz_drew, sz_drewN]; omega) | (simp only [sz_alloc, sz_set, sz_drew, sz_drewN] at *; omega)) hb1.size
      go_wp2
      exact bodyPost_ret (v := .agg #[.int .i64 0, .int .i64 (-3)]) (by simp [results, Try.results149, go_sem, *]) rfl ⟨by rw [HE.out]; rfl, (by repeat (first | exact Below.refl _ _ | exact Since.out (by assumption) | refine Below.alloc ?_ (by first | omega | (simp only [sz_alloc, sz_set, sz_drew, sz_drewN]; omega) | (simp only [sz_alloc, sz_set, sz_drew, sz_drewN] at *; omega)) _ | refine Below.setCell ?_ (by first | omega | (simp only [sz_alloc, sz_set, sz_drew, sz_drewN]; omega) | (simp only [sz_alloc, sz_set, sz_drew, sz_drewN] at *; omega)) _ | refine Below.drew ?_ | refine below_drewN_ ?_ _))⟩
end Go.Proofs.Ytepjgaakihhngaa
