/-
  Contracts of the program's and the reference's ValidTable. Conditions: those in each statement.
-/
import Derived.Test.YtelmooaenodfaaaDoorTab
import Derived.Test.YtelmooaenodfaaaDoorBase
import Derived.Test.YtelmooaenodfaaaDoorQuiet
import Derived.Deep.QuietTactic
import Derived.Deep.RegionWith
import Derived.Deep.RegionHeld3
set_option linter.unusedVariables false
set_option linter.unusedSimpArgs false
set_option maxRecDepth 100000
set_option maxHeartbeats 1000000
namespace Go.Proofs.YtelmooaenodfaaaDoor
open Go.RowKit

/-- an exit is one of n states -/
def exitOk (n : Int) (x : Int × Int) : Bool := if x.1 = 0 then inB x.2 (-3) (-1) else if x.1 = -1 ∨ x.1 = 1 then inB x.2 0 (n - 1) else false

theorem isExit (n : Int) (x : Int × Int) (w : World) (h0 : 0 ≤ n) (h1 : n ≤ 9223372036854775807) : Calls Tryd.prog 106 #[.agg #[.int .i64 x.1, .int .i64 x.2], .int .i64 n] w fun e w' => e = .returned (.bool (exitOk n x)) ∧ Below w.heap.size w w' := by
  obtain ⟨a, b⟩ := x
  by_cases ha : a = 0
  · subst ha
    go_enter Tryd.func106, Tryd.ntmps106
    go_wp2_with (go_at_call 95; refine (within_any _ _ _ _).mono ?_; rintro e w1 ⟨rfl, rfl⟩)
    go_ret
    exact ⟨ret_bool (by simp [exitOk]), (by repeat (first | exact Below.refl _ _ | exact Since.out (by assumption) | refine Below.alloc ?_ (by first | omega | (simp only [sz_alloc, sz_set, sz_drew, sz_drewN]; omega) | (simp only [sz_alloc, sz_set, sz_drew, sz_drewN] at *; omega)) _ | refine Below.setCell ?_ (by first | omega | (simp only [sz_alloc, sz_set, sz_drew, sz_drewN]; omega) | (simp only [sz_alloc, sz_set, sz_drew, sz_drewN] at *; omega)) _ | refine Below.drew ?_ | refine below_drewN_ ?_ _))⟩
  · have h2 : (a == 0) = false := by simp [ha]
    by_cases hb : a = -1
    · subst hb
      clear ha h2
      go_enter Tryd.func106, Tryd.ntmps106
      go_wp2_with (go_at_call 95; refine (within_any _ _ _ _).mono ?_; rintro e w1 ⟨rfl, rfl⟩)
      go_ret
      exact ⟨ret_bool (by simp [exitOk]), (by repeat (first | exact Below.refl _ _ | exact Since.out (by assumption) | refine Below.alloc ?_ (by first | omega | (simp only [sz_alloc, sz_set, sz_drew, sz_drewN]; omega) | (simp only [sz_alloc, sz_set, sz_drew, sz_drewN] at *; omega)) _ | refine Below.setCell ?_ (by first | omega | (simp only [sz_alloc, sz_set, sz_drew, sz_drewN]; omega) | (simp only [sz_alloc, sz_set, sz_drew, sz_drewN] at *; omega)) _ | refine Below.drew ?_ | refine below_drewN_ ?_ _))⟩
    · have h3 : (a == -1) = false := by simp [hb]
      by_cases hc : a = 1
      · subst hc
        clear ha h2 hb h3
        go_enter Tryd.func106, Tryd.ntmps106
        go_wp2_with (go_at_call 95; refine (within_any _ _ _ _).mono ?_; rintro e w1 ⟨rfl, rfl⟩)
        go_ret
        exact ⟨ret_bool (by simp [exitOk]), (by repeat (first | exact Below.refl _ _ | exact Since.out (by assumption) | refine Below.alloc ?_ (by first | omega | (simp only [sz_alloc, sz_set, sz_drew, sz_drewN]; omega) | (simp only [sz_alloc, sz_set, sz_drew, sz_drewN] at *; omega)) _ | refine Below.setCell ?_ (by first | omega | (simp only [sz_alloc, sz_set, sz_drew, sz_drewN]; omega) | (simp only [sz_alloc, sz_set, sz_drew, sz_drewN] at *; omega)) _ | refine Below.drew ?_ | refine below_drewN_ ?_ _))⟩
      · have h4 : (a == 1) = false := by simp [hc]
        have H : Hid (exitOk n (a, b) = false) := Lib.hid (by simp [exitOk, ha, hb, hc])
        clear ha hb hc
        go_enter Tryd.func106, Tryd.ntmps106
        go_wp2_with (go_at_call 95; refine (within_any _ _ _ _).mono ?_; rintro e w1 ⟨rfl, rfl⟩)
        go_ret
        exact ⟨ret_bool (by rw [H.out]), (by repeat (first | exact Below.refl _ _ | exact Since.out (by assumption) | refine Below.alloc ?_ (by first | omega | (simp only [sz_alloc, sz_set, sz_drew, sz_drewN]; omega) | (simp only [sz_alloc, sz_set, sz_drew, sz_drewN] at *; omega)) _ | refine Below.setCell ?_ (by first | omega | (simp only [sz_alloc, sz_set, sz_drew, sz_drewN]; omega) | (simp only [sz_alloc, sz_set, sz_drew, sz_drewN] at *; omega)) _ | refine Below.drew ?_ | refine below_drewN_ ?_ _))⟩

theorem sizeExits (A : Option Addr) (n c : Nat) (w : World) (hn : n ≤ 9223372036854775807) : Calls Tryd.prog 104 #[.slice A n c] w fun e w' => e = .returned (.int .i64 n) ∧ w = w' := by
  go_enter Tryd.func104, Tryd.ntmps104
  go_wp2
  go_ret
  exact ⟨rfl, rfl⟩

/-- The closure: is an exit wrong? -/
theorem wrongExit (b : Nat) (n : Int) (x : Int × Int) (w : World) (hb : w.cell? ⟨b, 0, none⟩ = some (.int .i64 n)) (hlt : b < w.heap.size) (h0 : 0 ≤ n) (h1 : n ≤ 9223372036854775807) :
    Calls Tryd.prog 105 #[.agg #[.int .i64 x.1, .int .i64 x.2], .pointer (some ⟨b, 0, none⟩)] w fun e w' => e = .returned (.bool (!exitOk n x)) ∧ Below w.heap.size w w' := by
  go_enter Tryd.func105, Tryd.ntmps105
  go_wp2_with (go_at_call 106; refine (isExit n x _ h0 h1).mono ?_; rintro e w1 ⟨rfl, hb1⟩)
  go_ret
  exact ⟨rfl, below_cat (by repeat (first | exact Below.refl _ _ | refine Below.alloc ?_ (by first | omega | (simp only [sz_alloc, sz_set, sz_drew, sz_drewN]; omega) | (simp only [sz_alloc, sz_set, sz_drew, sz_drewN] at *; omega)) _ | refine Below.setCell ?_ (by first | omega | (simp only [sz_alloc, sz_set, sz_drew, sz_drewN]; omega) | (simp only [sz_alloc, sz_set, sz_drew, sz_drewN] at *; omega)) _ | refine Below.drew ?_ | refine below_drewN_ ?_ _)) hb1 (by first | omega | (simp only [sz_alloc, sz_set, sz_drew, sz_drewN]; omega) | (simp only [sz_alloc, sz_set, sz_drew, sz_drewN] at *; omega))⟩

theorem indexWrong (A : Option Addr) (xs : List (Int × Int)) (c b : Nat) (n : Int) (w : World) (h1 : RdS w w.heap.size A xs) (hl : xs.length ≤ 1048576) (hb : w.cell? ⟨b, 0, none⟩ = some (.int .i64 n)) (hlt : b < w.heap.size) (g0 : 0 ≤ n) (g1 : n ≤ 9223372036854775807) :
    Calls Tryd.prog 137 #[.slice A xs.length c, .func (.func 105) #[] #[.pointer (some ⟨b, 0, none⟩)]] w fun e w' => (∃ r : Int, e = .returned (.int .i64 r) ∧ (0 ≤ r ↔ xs.all (exitOk n) = false)) ∧ Below w.heap.size w w' := by
  go_enter Tryd.func137, Tryd.ntmps137
  go_wp2
  go_loopw [8] (fun i wr => ∃ k : Nat, k ≤ xs.length ∧ i = .int .i64 k ∧ Since w wr ∧ Hid (xs.all (exitOk n) = (xs.drop k).all (exitOk n))) (fun i _ => xs.length - (intOf i).toNat)
  case atStart => exact ⟨0, Nat.zero_le _, rfl, ⟨Below.refl _ _⟩, Lib.hid (by simp)⟩
  case round =>
    obtain ⟨k, hk, rfl, hs, heq⟩ := hrel
    by_cases hk2 : k < xs.length
    · obtain ⟨x, hx⟩ := get_some hk2
      obtain ⟨b', o, rfl, hbb, c1, c2⟩ := (h1.below hs.out (Nat.le_refl _)).pair hx
      have heq' : Hid (xs.all (exitOk n) = (x :: xs.drop (k + 1)).all (exitOk n)) := by
        have := heq.out
        rwa [drop_cons hx] at this
      have i1 : (0 : Int) ≤ (k : Int) := by omega
      have i2 : (k : Int) < (xs.length : Int) := by omega
      have hb' : wr.cell? ⟨b, 0, none⟩ = some (.int .i64 n) := (hs.out.cell hlt).trans hb
      have hlt' : b < wr.heap.size := Nat.lt_of_lt_of_le hlt hs.out.size
      have W1 := Lib.hid (wrongExit b n x wr hb' hlt' g0 g1)
      clear hx heq hb hb'
      go_wp2_with (go_at_call 105; refine W1.out.mono ?_; rintro e w1 ⟨rfl, hb1⟩)
      all_goals have HB : Since w w1 := ⟨below_cat hs.out hb1 hs.out.size⟩
      · have hne : (!exitOk n x) = true := by assumption
        go_ret
        exact ⟨⟨_, rfl, by constructor <;> intro _ <;> first | omega | (rw [heq'.out]; simp_all)⟩, HB.out⟩
      · have hne : (!exitOk n x) = false := by assumption
        go_roundw
        case rel => exact ⟨k + 1, by omega, by go_num, HB, Lib.hid (by rw [heq'.out]; simp_all)⟩
        case measure => simp [intOf]; omega
    · go_wp2
      go_ret
      refine ⟨⟨_, rfl, ?_⟩, hs.out⟩
      rw [heq.out, List.drop_eq_nil_of_le (by omega)]
      simp

theorem containsWrong (A : Option Addr) (xs : List (Int × Int)) (c b : Nat) (n : Int) (w : World) (h1 : RdS w w.heap.size A xs) (hl : xs.length ≤ 1048576) (hb : w.cell? ⟨b, 0, none⟩ = some (.int .i64 n)) (hlt : b < w.heap.size) (g0 : 0 ≤ n) (g1 : n ≤ 9223372036854775807) :
    Calls Tryd.prog 107 #[.slice A xs.length c, .func (.func 105) #[] #[.pointer (some ⟨b, 0, none⟩)]] w fun e w' => e = .returned (.bool (!xs.all (exitOk n))) ∧ Below w.heap.size w w' := by
  go_enter Tryd.func107, Tryd.ntmps107
  go_wp2_with fail
  refine (indexWrong A xs c b n _ h1 hl hb hlt g0 g1).mono ?_
  rintro e w1 ⟨⟨r, rfl, hr⟩, hb1⟩
  have Hr := Lib.hid hr
  clear hr
  go_wp2
  go_ret
  exact ⟨ret_bool (by have := Hr.out; cases hx : xs.all (exitOk n) <;> simp_all), hb1⟩
theorem containsWrong_lit (r : Bool) (A : Option Addr) (xs : List (Int × Int)) (c b : Nat) (n : Int) (w : World) (h1 : RdS w w.heap.size A xs) (hl : xs.length ≤ 1048576) (hb : w.cell? ⟨b, 0, none⟩ = some (.int .i64 n)) (hlt : b < w.heap.size) (g0 : 0 ≤ n) (g1 : n ≤ 9223372036854775807)
    (hr : xs.all (exitOk n) = !r) :
    Calls Tryd.prog 107 #[.slice A xs.length c, .func (.func 105) #[] #[.pointer (some ⟨b, 0, none⟩)]] w fun e w' => e = .returned (.bool r) ∧ Below w.heap.size w w' :=
  (containsWrong A xs c b n w h1 hl hb hlt g0 g1).mono fun e w' ⟨he, hw⟩ => ⟨by rw [he, hr]; cases r <;> rfl, hw⟩

/-- a table is valid -/
def Tb.okB (T : Tb) : Bool := inB T.l.length 1 12 && (decide (T.r.length = T.l.length) && (T.l.all (exitOk T.l.length) && T.r.all (exitOk T.l.length)))

theorem validTable_impl_c (T : Tb) (A A' : Option Addr) (c c' : Nat) (w : World) (r1 : RdS w w.heap.size A T.l) (r2 : RdS w w.heap.size A' T.r) (hn1 : T.l.length ≤ 1048576) (hn2 : T.r.length ≤ 1048576)
    (k1a : (1 : Int) ≤ T.l.length) (k1b : (T.l.length : Int) ≤ 12) (k2 : T.r.length = T.l.length) (k3 : T.l.all (exitOk T.l.length) = false) :
    Calls Tryd.prog 50 #[.agg #[.slice A T.l.length c, .slice A' T.r.length c']] w fun e w' => e = .returned (.bool T.okB) ∧ Below w.heap.size w w' := by
  have K1 := Lib.hid (inB_yes k1a k1b)
  have q2 : ((T.r.length : Int) == (T.l.length : Int)) = true := by simp [k2]
  have K2 := Lib.hid (decide_eq_true k2)
  have J1 := Lib.hid k3
  clear k2 k3
  go_enter Tryd.func50, Tryd.ntmps50
  go_wp2_with (go_at_call 104; refine (sizeExits _ _ _ _ (by omega)).mono ?_; rintro e w1 ⟨rfl, rfl⟩)
  obtain ⟨W, hW⟩ : ∃ W, W = (w.alloc (Obj.cells #[Value.slice A T.l.length c, Value.slice A' T.r.length c'] 24)).alloc (Obj.cells #[Value.int IntKind.i64 T.l.length] 2) := ⟨_, rfl⟩
  have hz : W.heap.size = w.heap.size + 1 + 1 := by rw [hW]; simp
  have e0 : W.cell? ⟨w.heap.size, 0, none⟩ = some (.slice A T.l.length c) := by rw [hW]; go_simp
  have e1 : W.cell? ⟨w.heap.size, 1, none⟩ = some (.slice A' T.r.length c') := by rw [hW]; go_simp
  have e2 : W.cell? ⟨w.heap.size + 1, 0, none⟩ = some (.int .i64 T.l.length) := by rw [hW]; go_simp
  have hbW : Below w.heap.size w W := by rw [hW]; exact (by repeat (first | exact Below.refl _ _ | refine Below.alloc ?_ (by first | omega | (simp only [sz_alloc, sz_set, sz_drew, sz_drewN]; omega) | (simp only [sz_alloc, sz_set, sz_drew, sz_drewN] at *; omega)) _ | refine Below.setCell ?_ (by first | omega | (simp only [sz_alloc, sz_set, sz_drew, sz_drewN]; omega) | (simp only [sz_alloc, sz_set, sz_drew, sz_drewN] at *; omega)) _ | refine Below.drew ?_ | refine below_drewN_ ?_ _))
  rw [← hW]
  have F0 : Hid (∀ w', Below W.heap.size W w' → w'.cell? ⟨w.heap.size, 0, none⟩ = some (.slice A T.l.length c) ∧ w'.cell? ⟨w.heap.size, 1, none⟩ = some (.slice A' T.r.length c') ∧ w'.cell? ⟨w.heap.size + 1, 0, none⟩ = some (.int .i64 T.l.length)) := fun w' h =>
    ⟨(h.cell (p := ⟨_, _, _⟩) (by simp; omega)).trans e0, (h.cell (p := ⟨_, _, _⟩) (by simp; omega)).trans e1, (h.cell (p := ⟨_, _, _⟩) (by simp; omega)).trans e2⟩
  have HZ := Lib.hid hz
  clear hW e0 e1 e2 hz
  refine region_class (fun w' => Below W.heap.size W w') (by kernel_rfl) (by kernel_rfl) (Below.refl _ _).drew ?_
  repeat (first
    | go_big_quiet_skip
    | (go_big_quiet_want; refine quiet_val _ (fun w' hC => by (have q := F0.out w' hC; have q0 := q.1; have q1 := q.2.1; have q2 := q.2.2; clear q hC; go_simp; rfl)) ?_; go_big_quiet_on; simp only [Act.put, List.setIfInBounds_toArray, List.set_cons_zero, List.set_cons_succ])
    | (go_big_quiet_want; refine quiet_call 95 #[.int .i64 (T.l.length : Int), .int .i64 1, .int .i64 12] (.bool true) (fun w' => by (first | (go_simp; done) | (go_simp; rfl))) (fun w' hC => ((within_yes _ _ _ w' (by omega) (by omega)).mono fun e w'' h => ⟨h.1, h.2 ▸ hC⟩)) ?_; go_big_quiet_on; simp only [Act.put, List.setIfInBounds_toArray, List.set_cons_zero, List.set_cons_succ])
    | (go_big_quiet_want; refine quiet_call 104 #[.slice A' T.r.length c'] (.int .i64 (T.r.length : Int)) (fun w' => by (first | (go_simp; done) | (go_simp; rfl))) (fun w' hC => ((sizeExits _ _ _ w' (by omega)).mono fun e w'' h => ⟨h.1, h.2 ▸ hC⟩)) ?_; go_big_quiet_on; simp only [Act.put, List.setIfInBounds_toArray, List.set_cons_zero, List.set_cons_succ])
    | (go_big_quiet_want; refine quiet_call 107 #[.slice A T.l.length c, .func (.func 105) #[] #[.pointer (some ⟨w.heap.size + 1, 0, none⟩)]] (.bool true) (fun w' => by (first | (go_simp; done) | (go_simp; rfl))) (fun w' hC => (containsWrong_lit true A T.l c (w.heap.size + 1) T.l.length w' ((r1.up hbW).up hC) hn1 (F0.out w' hC).2.2 (by have := hC.size; have := HZ.out; omega) (by omega) (by omega) J1.out).mono fun e w'' h => ⟨h.1, hC.trans (h.2.mono hC.size)⟩) ?_; go_big_quiet_on; simp only [Act.put, List.setIfInBounds_toArray, List.set_cons_zero, List.set_cons_succ]))
  refine wpQuiet_nil ?_
  intro w' hC
  go_wp2
  go_ret
  exact ⟨ret_bool (by unfold Tb.okB; rw [K1.out, K2.out, J1.out]; rfl), hbW.trans (hC.mono (by have := HZ.out; omega))⟩

theorem validTable_impl (v : Value) (T : Tb) (w : World) (h1 : RdTb w w.heap.size v T) (hn : T.tot ≤ 1048576) :
    Calls Tryd.prog 50 #[v] w fun e w' => e = .returned (.bool T.okB) ∧ Below w.heap.size w w' := by
  obtain ⟨A, c, A', c', rfl, r1, r2⟩ := h1
  have hn1 : T.l.length ≤ 1048576 := by unfold Tb.tot at hn; omega
  have hn2 : T.r.length ≤ 1048576 := by unfold Tb.tot at hn; omega
  by_cases k1 : (1 : Int) ≤ T.l.length ∧ (T.l.length : Int) ≤ 12
  · obtain ⟨k1a, k1b⟩ := k1
    have K1 := Lib.hid (inB_yes k1a k1b)
    by_cases k2 : T.r.length = T.l.length
    · have q2 : ((T.r.length : Int) == (T.l.length : Int)) = true := by simp [k2]
      have K2 := Lib.hid (decide_eq_true k2)
      clear k2
      by_cases k3 : T.l.all (exitOk T.l.length) = true
      · have J1 := Lib.hid k3
        clear k3
        go_enter Tryd.func50, Tryd.ntmps50
        go_wp2_with (go_at_call 104; refine (sizeExits _ _ _ _ (by omega)).mono ?_; rintro e w1 ⟨rfl, rfl⟩)
        go_region_held3 (fun w' => w'.cell? ⟨w.heap.size, 0, none⟩ = some (.slice A T.l.length c) ∧ w'.cell? ⟨w.heap.size, 1, none⟩ = some (.slice A' T.r.length c') ∧ w'.cell? ⟨w.heap.size + 1, 0, none⟩ = some (.int .i64 T.l.length)) (go_keep) (first
        | (go_at_call 95; refine (within_yes _ _ _ _ (by omega) (by omega)).mono ?_; rintro e wa ⟨rfl, rfl⟩)
        | (go_at_call 104; refine (sizeExits _ _ _ _ (by omega)).mono ?_; rintro e wb ⟨rfl, rfl⟩)
        | (go_at_call_of 107 A; refine (containsWrong_lit false A T.l c (w.heap.size + 1) T.l.length _ (r1.up (by repeat (first | exact Below.refl _ _ | exact Since.out (by assumption) | refine Below.alloc ?_ (by first | omega | (simp only [sz_alloc, sz_set, sz_drew, sz_drewN]; omega) | (simp only [sz_alloc, sz_set, sz_drew, sz_drewN] at *; omega)) _ | refine Below.setCell ?_ (by first | omega | (simp only [sz_alloc, sz_set, sz_drew, sz_drewN]; omega) | (simp only [sz_alloc, sz_set, sz_drew, sz_drewN] at *; omega)) _ | refine Below.drew ?_ | refine below_drewN_ ?_ _))) hn1 (by go_simp) (by first | omega | (simp only [sz_alloc, sz_set, sz_drew, sz_drewN]; omega) | (simp only [sz_alloc, sz_set, sz_drew, sz_drewN] at *; omega)) (by omega) (by omega) J1.out).mono ?_; rintro e w1 ⟨rfl, hb1⟩; have HBw1 : Since w w1 := ⟨below_cat (by repeat (first | exact Below.refl _ _ | exact Since.out (by assumption) | refine Below.alloc ?_ (by first | omega | (simp only [sz_alloc, sz_set, sz_drew, sz_drewN]; omega) | (simp only [sz_alloc, sz_set, sz_drew, sz_drewN] at *; omega)) _ | refine Below.setCell ?_ (by first | omega | (simp only [sz_alloc, sz_set, sz_drew, sz_drewN]; omega) | (simp only [sz_alloc, sz_set, sz_drew, sz_drewN] at *; omega)) _ | refine Below.drew ?_ | refine below_drewN_ ?_ _)) hb1 (by first | omega | (simp only [sz_alloc, sz_set, sz_drew, sz_drewN]; omega) | (simp only [sz_alloc, sz_set, sz_drew, sz_drewN] at *; omega))⟩; have hzw1 := hb1.size; (try simp only [sz_alloc, sz_set, sz_drew, sz_drewN] at hzw1); have hcw1k0 := fun o => hb1.cell (p := ⟨w.heap.size, o, none⟩) (by first | omega | (simp only [sz_alloc, sz_set, sz_drew, sz_drewN]; omega) | (simp only [sz_alloc, sz_set, sz_drew, sz_drewN] at *; omega)); have hfw1k0 := fun o => hb1.frozen (p := ⟨w.heap.size, o, none⟩) (by first | omega | (simp only [sz_alloc, sz_set, sz_drew, sz_drewN]; omega) | (simp only [sz_alloc, sz_set, sz_drew, sz_drewN] at *; omega)); have hlw1k0 : w.heap.size < w1.heap.size := (by first | omega | (simp only [sz_alloc, sz_set, sz_drew, sz_drewN]; omega) | (simp only [sz_alloc, sz_set, sz_drew, sz_drewN] at *; omega)); have hcw1k1 := fun o => hb1.cell (p := ⟨w.heap.size + 1, o, none⟩) (by first | omega | (simp only [sz_alloc, sz_set, sz_drew, sz_drewN]; omega) | (simp only [sz_alloc, sz_set, sz_drew, sz_drewN] at *; omega)); have hfw1k1 := fun o => hb1.frozen (p := ⟨w.heap.size + 1, o, none⟩) (by first | omega | (simp only [sz_alloc, sz_set, sz_drew, sz_drewN]; omega) | (simp only [sz_alloc, sz_set, sz_drew, sz_drewN] at *; omega)); have hlw1k1 : w.heap.size + 1 < w1.heap.size := (by first | omega | (simp only [sz_alloc, sz_set, sz_drew, sz_drewN]; omega) | (simp only [sz_alloc, sz_set, sz_drew, sz_drewN] at *; omega)))
        | (go_at_call_of 107 A'; refine (containsWrong A' T.r c' (w.heap.size + 1) T.l.length _ (r2.up (by repeat (first | exact Below.refl _ _ | exact Since.out (by assumption) | refine Below.alloc ?_ (by first | omega | (simp only [sz_alloc, sz_set, sz_drew, sz_drewN]; omega) | (simp only [sz_alloc, sz_set, sz_drew, sz_drewN] at *; omega)) _ | refine Below.setCell ?_ (by first | omega | (simp only [sz_alloc, sz_set, sz_drew, sz_drewN]; omega) | (simp only [sz_alloc, sz_set, sz_drew, sz_drewN] at *; omega)) _ | refine Below.drew ?_ | refine below_drewN_ ?_ _))) hn2 (by go_simp) (by first | omega | (simp only [sz_alloc, sz_set, sz_drew, sz_drewN]; omega) | (simp only [sz_alloc, sz_set, sz_drew, sz_drewN] at *; omega)) (by omega) (by omega)).mono ?_; rintro e w2 ⟨rfl, hb2⟩; have HBw2 : Since w w2 := ⟨below_cat (by repeat (first | exact Below.refl _ _ | exact Since.out (by assumption) | refine Below.alloc ?_ (by first | omega | (simp only [sz_alloc, sz_set, sz_drew, sz_drewN]; omega) | (simp only [sz_alloc, sz_set, sz_drew, sz_drewN] at *; omega)) _ | refine Below.setCell ?_ (by first | omega | (simp only [sz_alloc, sz_set, sz_drew, sz_drewN]; omega) | (simp only [sz_alloc, sz_set, sz_drew, sz_drewN] at *; omega)) _ | refine Below.drew ?_ | refine below_drewN_ ?_ _)) hb2 (by first | omega | (simp only [sz_alloc, sz_set, sz_drew, sz_drewN]; omega) | (simp only [sz_alloc, sz_set, sz_drew, sz_drewN] at *; omega))⟩; have hzw2 := hb2.size; (try simp only [sz_alloc, sz_set, sz_drew, sz_drewN] at hzw2); have hcw2k0 := fun o => hb2.cell (p := ⟨w.heap.size, o, none⟩) (by first | omega | (simp only [sz_alloc, sz_set, sz_drew, sz_drewN]; omega) | (simp only [sz_alloc, sz_set, sz_drew, sz_drewN] at *; omega)); have hfw2k0 := fun o => hb2.frozen (p := ⟨w.heap.size, o, none⟩) (by first | omega | (simp only [sz_alloc, sz_set, sz_drew, sz_drewN]; omega) | (simp only [sz_alloc, sz_set, sz_drew, sz_drewN] at *; omega)); have hlw2k0 : w.heap.size < w2.heap.size := (by first | omega | (simp only [sz_alloc, sz_set, sz_drew, sz_drewN]; omega) | (simp only [sz_alloc, sz_set, sz_drew, sz_drewN] at *; omega)); have hcw2k1 := fun o => hb2.cell (p := ⟨w.heap.size + 1, o, none⟩) (by first | omega | (simp only [sz_alloc, sz_set, sz_drew, sz_drewN]; omega) | (simp only [sz_alloc, sz_set, sz_drew, sz_drewN] at *; omega)); have hfw2k1 := fun o => hb2.frozen (p := ⟨w.heap.size + 1, o, none⟩) (by first | omega | (simp only [sz_alloc, sz_set, sz_drew, sz_drewN]; omega) | (simp only [sz_alloc, sz_set, sz_drew, sz_drewN] at *; omega)); have hlw2k1 : w.heap.size + 1 < w2.heap.size := (by first | omega | (simp only [sz_alloc, sz_set, sz_drew, sz_drewN]; omega) | (simp only [sz_alloc, sz_set, sz_drew, sz_drewN] at *; omega))))
        all_goals go_wp2
        all_goals go_ret
        all_goals exact ⟨ret_bool (by unfold Tb.okB; rw [K1.out, K2.out, J1.out]; simp), HBw2.out⟩
      · exact validTable_impl_c T A A' c c' w r1 r2 hn1 hn2 k1a k1b (of_decide_eq_true K2.out) (Bool.eq_false_iff.2 k3)
    · have q2 : ((T.r.length : Int) == (T.l.length : Int)) = false := by simp; omega
      have K2 := Lib.hid (decide_eq_false k2)
      clear k2
      go_enter Tryd.func50, Tryd.ntmps50
      go_wp2_with (go_at_call 104; refine (sizeExits _ _ _ _ (by omega)).mono ?_; rintro e w1 ⟨rfl, rfl⟩)
      go_quiet (first | (go_at_call 104; exact Calls.quiet_of_same ((sizeExits _ _ _ _ (by omega)).mono fun _ _ h => ⟨h.1, h.2.symm⟩)) | (go_at_call 95; exact Calls.quiet_of_same ((within_yes _ _ _ _ (by omega) (by omega)).mono fun _ _ h => ⟨h.1, h.2.symm⟩)))
      go_wp2
      go_ret
      exact ⟨ret_bool (by unfold Tb.okB; rw [K1.out, K2.out]; rfl), (by repeat (first | exact Below.refl _ _ | refine Below.alloc ?_ (by first | omega | (simp only [sz_alloc, sz_set, sz_drew, sz_drewN]; omega) | (simp only [sz_alloc, sz_set, sz_drew, sz_drewN] at *; omega)) _ | refine Below.setCell ?_ (by first | omega | (simp only [sz_alloc, sz_set, sz_drew, sz_drewN]; omega) | (simp only [sz_alloc, sz_set, sz_drew, sz_drewN] at *; omega)) _ | refine Below.drew ?_ | refine below_drewN_ ?_ _))⟩
  · have K1 := Lib.hid (inB_no k1)
    have W1 : Hid (∀ W, Calls Tryd.prog 95 #[.int .i64 (T.l.length : Int), .int .i64 1, .int .i64 12] W fun (e : Ending) w' => e = .returned (.bool false) ∧ w' = W) := fun W => (within_no _ _ _ W k1).mono fun _ _ h => ⟨h.1, h.2.symm⟩
    clear k1
    go_enter Tryd.func50, Tryd.ntmps50
    go_wp2_with (go_at_call 104; refine (sizeExits _ _ _ _ (by omega)).mono ?_; rintro e w1 ⟨rfl, rfl⟩)
    go_quiet ((go_at_call 95; exact Calls.quiet_of_same (W1.out _)))
    go_wp2
    go_ret
    exact ⟨ret_bool (by unfold Tb.okB; rw [K1.out]; rfl), (by repeat (first | exact Below.refl _ _ | refine Below.alloc ?_ (by first | omega | (simp only [sz_alloc, sz_set, sz_drew, sz_drewN]; omega) | (simp only [sz_alloc, sz_set, sz_drew, sz_drewN] at *; omega)) _ | refine Below.setCell ?_ (by first | omega | (simp only [sz_alloc, sz_set, sz_drew, sz_drewN]; omega) | (simp only [sz_alloc, sz_set, sz_drew, sz_drewN] at *; omega)) _ | refine Below.drew ?_ | refine below_drewN_ ?_ _))⟩
theorem l03Exit (n : Int) (x : Int × Int) (w : World) (h0 : 0 ≤ n) (h1 : n ≤ 9223372036854775807) : Calls Tryd.prog 99 #[.agg #[.int .i64 x.1, .int .i64 x.2], .int .i64 n] w fun e w' => e = .returned (.bool (exitOk n x)) ∧ Below w.heap.size w w' := by
  obtain ⟨a, b⟩ := x
  by_cases ha : a = 0
  · subst ha
    go_enter Tryd.func99, Tryd.ntmps99
    go_wp2_with (go_at_call 72; refine (l00In_any _ _ _ _).mono ?_; rintro e w1 ⟨rfl, rfl⟩)
    go_ret
    exact ⟨ret_bool (by simp [exitOk]), (by repeat (first | exact Below.refl _ _ | exact Since.out (by assumption) | refine Below.alloc ?_ (by first | omega | (simp only [sz_alloc, sz_set, sz_drew, sz_drewN]; omega) | (simp only [sz_alloc, sz_set, sz_drew, sz_drewN] at *; omega)) _ | refine Below.setCell ?_ (by first | omega | (simp only [sz_alloc, sz_set, sz_drew, sz_drewN]; omega) | (simp only [sz_alloc, sz_set, sz_drew, sz_drewN] at *; omega)) _ | refine Below.drew ?_ | refine below_drewN_ ?_ _))⟩
  · have h2 : (a == 0) = false := by simp [ha]
    by_cases hb : a = -1
    · subst hb
      clear ha h2
      go_enter Tryd.func99, Tryd.ntmps99
      go_wp2_with (go_at_call 72; refine (l00In_any _ _ _ _).mono ?_; rintro e w1 ⟨rfl, rfl⟩)
      go_ret
      exact ⟨ret_bool (by simp [exitOk]), (by repeat (first | exact Below.refl _ _ | exact Since.out (by assumption) | refine Below.alloc ?_ (by first | omega | (simp only [sz_alloc, sz_set, sz_drew, sz_drewN]; omega) | (simp only [sz_alloc, sz_set, sz_drew, sz_drewN] at *; omega)) _ | refine Below.setCell ?_ (by first | omega | (simp only [sz_alloc, sz_set, sz_drew, sz_drewN]; omega) | (simp only [sz_alloc, sz_set, sz_drew, sz_drewN] at *; omega)) _ | refine Below.drew ?_ | refine below_drewN_ ?_ _))⟩
    · have h3 : (a == -1) = false := by simp [hb]
      by_cases hc : a = 1
      · subst hc
        clear ha h2 hb h3
        go_enter Tryd.func99, Tryd.ntmps99
        go_wp2_with (go_at_call 72; refine (l00In_any _ _ _ _).mono ?_; rintro e w1 ⟨rfl, rfl⟩)
        go_ret
        exact ⟨ret_bool (by simp [exitOk]), (by repeat (first | exact Below.refl _ _ | exact Since.out (by assumption) | refine Below.alloc ?_ (by first | omega | (simp only [sz_alloc, sz_set, sz_drew, sz_drewN]; omega) | (simp only [sz_alloc, sz_set, sz_drew, sz_drewN] at *; omega)) _ | refine Below.setCell ?_ (by first | omega | (simp only [sz_alloc, sz_set, sz_drew, sz_drewN]; omega) | (simp only [sz_alloc, sz_set, sz_drew, sz_drewN] at *; omega)) _ | refine Below.drew ?_ | refine below_drewN_ ?_ _))⟩
      · have h4 : (a == 1) = false := by simp [hc]
        have H : Hid (exitOk n (a, b) = false) := Lib.hid (by simp [exitOk, ha, hb, hc])
        clear ha hb hc
        go_enter Tryd.func99, Tryd.ntmps99
        go_wp2_with (go_at_call 72; refine (l00In_any _ _ _ _).mono ?_; rintro e w1 ⟨rfl, rfl⟩)
        go_ret
        exact ⟨ret_bool (by rw [H.out]), (by repeat (first | exact Below.refl _ _ | exact Since.out (by assumption) | refine Below.alloc ?_ (by first | omega | (simp only [sz_alloc, sz_set, sz_drew, sz_drewN]; omega) | (simp only [sz_alloc, sz_set, sz_drew, sz_drewN] at *; omega)) _ | refine Below.setCell ?_ (by first | omega | (simp only [sz_alloc, sz_set, sz_drew, sz_drewN]; omega) | (simp only [sz_alloc, sz_set, sz_drew, sz_drewN] at *; omega)) _ | refine Below.drew ?_ | refine below_drewN_ ?_ _))⟩


theorem l03Ok (b : Nat) (A A' : Option Addr) (T : Tb) (c c' : Nat) (w : World) (k1 : w.cell? ⟨b, 0, none⟩ = some (.slice A T.l.length c)) (k2 : w.cell? ⟨b, 1, none⟩ = some (.slice A' T.r.length c')) (hb : b < w.heap.size)
    (r1 : RdS w w.heap.size A T.l) (r2 : RdS w w.heap.size A' T.r) (hn : T.tot ≤ 1048576) :
    Calls Tryd.prog 46 #[.pointer (some ⟨b, 0, none⟩)] w fun e w' => e = .returned (.bool T.okB) ∧ Below w.heap.size w w' := by
  have hn1 : T.l.length ≤ 1048576 := by unfold Tb.tot at hn; omega
  have hn2 : T.r.length ≤ 1048576 := by unfold Tb.tot at hn; omega
  by_cases e2 : T.r.length = T.l.length
  · have q2 : ((T.r.length : Int) != (T.l.length : Int)) = false := by simp [e2]
    have K2 := Lib.hid (decide_eq_true e2)
    have hle : T.l.length ≤ T.r.length := by omega
    clear e2
    by_cases e1 : (1 : Int) ≤ T.l.length ∧ (T.l.length : Int) ≤ 12
    · obtain ⟨e1a, e1b⟩ := e1
      have K1 := Lib.hid (inB_yes e1a e1b)
      go_enter Tryd.func46, Tryd.ntmps46
      go_wp2_with (go_at_call 72; refine (l00In_yes _ _ _ _ (by omega) (by omega)).mono ?_; rintro e w1 ⟨rfl, rfl⟩)
      go_loopw [4] (fun i wr => ∃ k : Nat, k ≤ T.l.length ∧ i = .int .i64 k ∧ Since w wr ∧ Hid ((T.l.all (exitOk T.l.length) && T.r.all (exitOk T.l.length)) = ((T.l.drop k).all (exitOk T.l.length) && (T.r.drop k).all (exitOk T.l.length)))) (fun i _ => T.l.length - (intOf i).toNat)
      case atStart => exact ⟨0, Nat.zero_le _, rfl, ⟨Below.refl _ _⟩, Lib.hid (by simp)⟩
      case round =>
        obtain ⟨k, hk, rfl, hs, heq⟩ := hrel
        have m1 : wr.cell? ⟨b, 0, none⟩ = some (.slice A T.l.length c) := (hs.out.cell hb).trans k1
        have m2 : wr.cell? ⟨b, 1, none⟩ = some (.slice A' T.r.length c') := (hs.out.cell hb).trans k2
        have hb' : b < wr.heap.size := Nat.lt_of_lt_of_le hb hs.out.size
        by_cases hk2 : k < T.l.length
        · obtain ⟨x, hx⟩ := get_some hk2
          obtain ⟨y, hy⟩ := get_some (xs := T.r) (k := k) (by omega)
          obtain ⟨b1, o1, rfl, hb1, c1, c2⟩ := (r1.below hs.out (Nat.le_refl _)).pair hx
          obtain ⟨b2, o2, rfl, hb2, c3, c4⟩ := (r2.below hs.out (Nat.le_refl _)).pair hy
          have heq' : Hid ((T.l.all (exitOk T.l.length) && T.r.all (exitOk T.l.length)) = ((x :: T.l.drop (k + 1)).all (exitOk T.l.length) && (y :: T.r.drop (k + 1)).all (exitOk T.l.length))) := by
            have := heq.out
            rwa [drop_cons hx, drop_cons hy] at this
          have i1 : (0 : Int) ≤ (k : Int) := by omega
          have i2 : (k : Int) < (T.l.length : Int) := by omega
          have i3 : (k : Int) < (T.r.length : Int) := by omega
          clear hx hy heq k1 k2
          have hb1' : b1 < wr.heap.size := Nat.lt_of_lt_of_le hb1 hs.out.size
          have hb2' : b2 < wr.heap.size := Nat.lt_of_lt_of_le hb2 hs.out.size
          go_wp2_with fail
          refine (l03Exit (T.l.length : Int) x _ (by omega) (by omega)).mono ?_
          rintro e w1 ⟨rfl, hw1⟩
          have S1 : Since w w1 := ⟨below_cat hs.out hw1 hs.out.size⟩
          cases hv : exitOk T.l.length x with
          | false =>
            have HV := Lib.hid hv
            clear hv
            go_wp2
            go_ret
            exact ⟨ret_bool (by unfold Tb.okB; rw [K1.out, K2.out, heq'.out]; simp [HV.out]), S1.out⟩
          | true =>
            have HV := Lib.hid hv
            clear hv
            have d2 : w1.cell? ⟨b, 1, none⟩ = some (.slice (some ⟨b2, o2, none⟩) T.r.length c') := (hw1.cell hb').trans m2
            have d3 : w1.cell? ⟨b2, o2 + k * 2, none⟩ = some (.int .i64 y.1) := (hw1.cell hb2').trans c3
            have d4 : w1.cell? ⟨b2, o2 + k * 2 + 1, none⟩ = some (.int .i64 y.2) := (hw1.cell hb2').trans c4
            go_wp2_with fail
            refine (l03Exit (T.l.length : Int) y _ (by omega) (by omega)).mono ?_
            rintro e w2 ⟨rfl, hw2⟩
            have S2 : Since w w2 := ⟨below_cat S1.out hw2 S1.out.size⟩
            cases hv : exitOk T.l.length y with
            | false =>
              have HV' := Lib.hid hv
              clear hv
              go_wp2
              go_ret
              exact ⟨ret_bool (by unfold Tb.okB; rw [K1.out, K2.out, heq'.out]; simp [HV'.out]), S2.out⟩
            | true =>
              have HV' := Lib.hid hv
              clear hv
              go_wp2
              go_roundw
              case rel => exact ⟨k + 1, by omega, by go_num, S2, Lib.hid (by rw [heq'.out]; simp [HV.out, HV'.out])⟩
              case measure => simp [intOf]; omega
        · go_wp2
          go_ret
          have e2 := of_decide_eq_true K2.out
          exact ⟨ret_bool (by unfold Tb.okB; rw [K1.out, K2.out, heq.out, List.drop_eq_nil_of_le (by omega), List.drop_eq_nil_of_le (by omega)]; rfl), hs.out⟩
    · have K1 := Lib.hid (inB_no e1)
      have W1 : Hid (∀ W, Calls Tryd.prog 72 #[.int .i64 (T.l.length : Int), .int .i64 1, .int .i64 12] W fun (e : Ending) w' => e = .returned (.bool false) ∧ W = w') := fun W => l00In_no _ _ _ W e1
      clear e1
      go_enter Tryd.func46, Tryd.ntmps46
      go_wp2_with (go_at_call 72; refine (W1.out _).mono ?_; rintro e w1 ⟨rfl, rfl⟩)
      go_ret
      exact ⟨ret_bool (by unfold Tb.okB; rw [K1.out]; rfl), Below.refl _ _⟩
  · have q2 : ((T.r.length : Int) != (T.l.length : Int)) = true := by simp; omega
    have K2 := Lib.hid (decide_eq_false e2)
    clear e2
    go_enter Tryd.func46, Tryd.ntmps46
    go_wp2
    go_ret
    exact ⟨ret_bool (by unfold Tb.okB; rw [K2.out]; simp), Below.refl _ _⟩


end Go.Proofs.YtelmooaenodfaaaDoor
