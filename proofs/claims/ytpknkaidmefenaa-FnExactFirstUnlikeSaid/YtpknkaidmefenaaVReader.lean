/-
  Contracts of the program's and the reference's ValidReader. Conditions: those in each statement.
-/
import Derived.Test.YtpknkaidmefenaaVTurner
import Derived.Test.YtpknkaidmefenaaSReader
import Derived.BigQuiet
import Derived.Deep.QuietTactic
set_option linter.unusedVariables false
set_option linter.unusedSimpArgs false
set_option maxRecDepth 100000
set_option maxHeartbeats 1000000
namespace Go.Proofs.Ytpknkaidmefenaa
open Go.RowKit

def stOk (n : Int) (x : Int) : Bool := inB x 0 (n - 1)
def rowR (n L : Int) (row : List Int) : Bool := decide ((row.length : Int) = L) && row.all (stOk n)
def Rr.okB (T : Rr) : Bool := inB T.letters 1 3 && (inB T.accept.length 1 300 && (inB T.start 0 (T.accept.length - 1) && (decide (T.next.length = T.accept.length) && T.next.all (rowR T.accept.length T.letters))))

theorem wrongState (b : Nat) (n : Int) (x : Int) (w : World) (hb : w.cell? ⟨b, 0, none⟩ = some (.int .i64 n)) (hlt : b < w.heap.size) (h0 : 0 ≤ n) (h1 : n ≤ 1048576) :
    Calls Try.prog 74 #[.int .i64 x, .pointer (some ⟨b, 0, none⟩)] w fun e w' => e = .returned (.bool (!stOk n x)) ∧ Below w.heap.size w w' := by
  go_enter Try.func74, Try.ntmps74
  go_wp2_with (go_at_call 52; refine (within_any _ _ _ _).mono ?_; rintro e w1 ⟨rfl, rfl⟩)
  go_ret
  exact ⟨rfl, Below.refl _ _⟩

theorem indexState (A : Option Addr) (xs : List Int) (c : Nat) (b : Nat) (n : Int) (w : World) (h1 : RdS w w.heap.size A xs) (hl : xs.length ≤ 1048576) (hb : w.cell? ⟨b, 0, none⟩ = some (.int .i64 n)) (hlt : b < w.heap.size) (g0 : 0 ≤ n) (g1 : n ≤ 1048576) :
    Calls Try.prog 84 #[.slice A xs.length c, .func (.func 74) #[] #[.pointer (some ⟨b, 0, none⟩)]] w fun e w' => (∃ r : Int, e = .returned (.int .i64 r) ∧ (0 ≤ r ↔ xs.all (stOk n) = false)) ∧ Below w.heap.size w w' := by
  go_enter Try.func84, Try.ntmps84
  go_wp2
  go_loopw [8] (fun i wr => ∃ k : Nat, k ≤ xs.length ∧ i = .int .i64 k ∧ Since w wr ∧ Hid (xs.all (stOk n) = (xs.drop k).all (stOk n))) (fun i _ => xs.length - (intOf i).toNat)
  case atStart => exact ⟨0, Nat.zero_le _, rfl, ⟨Below.refl _ _⟩, Lib.hid (by simp)⟩
  case round =>
    obtain ⟨k, hk, rfl, hs, heq⟩ := hrel
    by_cases hk2 : k < xs.length
    · obtain ⟨x, hx⟩ := get_some hk2
      obtain ⟨b', o, rfl, hbb, c1⟩ := (h1.below hs.out (Nat.le_refl _)).int hx
      have heq' : Hid (xs.all (stOk n) = (x :: xs.drop (k + 1)).all (stOk n)) := by
        have := heq.out
        rwa [drop_cons hx] at this
      have i1 : (0 : Int) ≤ (k : Int) := by omega
      have i2 : (k : Int) < (xs.length : Int) := by omega
      have W1 := Lib.hid (wrongState b n x wr ((hs.out.cell hlt).trans hb) (Nat.lt_of_lt_of_le hlt hs.out.size) g0 g1)
      clear heq hx
      go_wp2_with (go_at_call 74; refine W1.out.mono ?_; rintro e w1 ⟨rfl, hb1⟩)
      all_goals have HB : Since w w1 := ⟨below_cat hs.out hb1 hs.out.size⟩
      · have hne : (!(stOk n) x) = true := by assumption
        go_ret
        exact ⟨⟨_, rfl, by constructor <;> intro _ <;> first | omega | (rw [heq'.out]; simp_all)⟩, HB.out⟩
      · have hne : (!(stOk n) x) = false := by assumption
        go_roundw
        case rel => exact ⟨k + 1, by omega, by go_num, HB, Lib.hid (by rw [heq'.out]; simp_all)⟩
        case measure => simp [intOf]; omega
    · go_wp2
      go_ret
      refine ⟨⟨_, rfl, ?_⟩, hs.out⟩
      rw [heq.out, List.drop_eq_nil_of_le (by omega)]
      simp

theorem containsState (A : Option Addr) (xs : List Int) (c : Nat) (b : Nat) (n : Int) (w : World) (h1 : RdS w w.heap.size A xs) (hl : xs.length ≤ 1048576) (hb : w.cell? ⟨b, 0, none⟩ = some (.int .i64 n)) (hlt : b < w.heap.size) (g0 : 0 ≤ n) (g1 : n ≤ 1048576) :
    Calls Try.prog 73 #[.slice A xs.length c, .func (.func 74) #[] #[.pointer (some ⟨b, 0, none⟩)]] w fun e w' => e = .returned (.bool (!xs.all (stOk n))) ∧ Below w.heap.size w w' := by
  go_enter Try.func73, Try.ntmps73
  go_wp2_with fail
  refine (indexState A xs c b n _ h1 hl hb hlt g0 g1).mono ?_
  rintro e w1 ⟨⟨r, rfl, hr⟩, hb1⟩
  have Hr := Lib.hid hr
  clear hr
  go_wp2
  go_ret
  exact ⟨ret_bool (by have := Hr.out; cases hx : xs.all (stOk n) <;> simp_all), hb1⟩

theorem sizeInts (A : Option Addr) (n c : Nat) (w : World) (hn : n ≤ 9223372036854775807) : Calls Try.prog 72 #[.slice A n c] w fun e w' => e = .returned (.int .i64 n) ∧ w = w' := by
  go_enter Try.func72, Try.ntmps72
  go_wp2
  go_ret
  exact ⟨rfl, rfl⟩
theorem sizeBools (A : Option Addr) (n c : Nat) (w : World) (hn : n ≤ 9223372036854775807) : Calls Try.prog 50 #[.slice A n c] w fun e w' => e = .returned (.int .i64 n) ∧ w = w' := by
  go_enter Try.func50, Try.ntmps50
  go_wp2
  go_ret
  exact ⟨rfl, rfl⟩
theorem sizeIntS (A : Option Addr) (n c : Nat) (w : World) (hn : n ≤ 9223372036854775807) : Calls Try.prog 53 #[.slice A n c] w fun e w' => e = .returned (.int .i64 n) ∧ w = w' := by
  go_enter Try.func53, Try.ntmps53
  go_wp2
  go_ret
  exact ⟨rfl, rfl⟩

theorem areStates (A : Option Addr) (xs : List Int) (c : Nat) (L n : Int) (w : World) (h1 : RdS w w.heap.size A xs) (hl : xs.length ≤ 1048576) (g0 : 0 ≤ n) (g1 : n ≤ 1048576) :
    Calls Try.prog 56 #[.slice A xs.length c, .int .i64 L, .int .i64 n] w fun e w' => e = .returned (.bool (rowR n L xs)) ∧ Below w.heap.size w w' := by
  by_cases hL : (xs.length : Int) = L
  · have e1 : ((xs.length : Int) == L) = true := by simp [hL]
    have X := Lib.hid (decide_eq_true hL)
    clear hL
    go_enter Try.func56, Try.ntmps56
    go_wp2_with (first
      | (go_at_call 72; refine (sizeInts _ _ _ _ (by omega)).mono ?_; rintro e w1 ⟨rfl, rfl⟩)
      | (go_at_call 73; refine (containsState A xs c w.heap.size n _ (h1.up (by repeat (first | exact Below.refl _ _ | refine Below.alloc ?_ (by first | omega | (simp only [sz_alloc, sz_set, sz_drew, sz_drewN]; omega) | (simp only [sz_alloc, sz_set, sz_drew, sz_drewN] at *; omega)) _ | refine Below.setCell ?_ (by first | omega | (simp only [sz_alloc, sz_set, sz_drew, sz_drewN]; omega) | (simp only [sz_alloc, sz_set, sz_drew, sz_drewN] at *; omega)) _ | refine Below.drew ?_ | refine below_drewN_ ?_ _))) hl (by go_simp) (by first | omega | (simp only [sz_alloc, sz_set, sz_drew, sz_drewN]; omega) | (simp only [sz_alloc, sz_set, sz_drew, sz_drewN] at *; omega)) g0 g1).mono ?_; rintro e w2 ⟨rfl, hb2⟩; have HBw2 : Since w w2 := ⟨below_cat (by repeat (first | exact Below.refl _ _ | exact Since.out (by assumption) | refine Below.alloc ?_ (by first | omega | (simp only [sz_alloc, sz_set, sz_drew, sz_drewN]; omega) | (simp only [sz_alloc, sz_set, sz_drew, sz_drewN] at *; omega)) _ | refine Below.setCell ?_ (by first | omega | (simp only [sz_alloc, sz_set, sz_drew, sz_drewN]; omega) | (simp only [sz_alloc, sz_set, sz_drew, sz_drewN] at *; omega)) _ | refine Below.drew ?_ | refine below_drewN_ ?_ _)) hb2 (by first | omega | (simp only [sz_alloc, sz_set, sz_drew, sz_drewN]; omega) | (simp only [sz_alloc, sz_set, sz_drew, sz_drewN] at *; omega))⟩; have hzw2 := hb2.size; (try simp only [sz_alloc, sz_set, sz_drew, sz_drewN] at hzw2); have hcw2k0 := fun o => hb2.cell (p := ⟨w.heap.size, o, none⟩) (by first | omega | (simp only [sz_alloc, sz_set, sz_drew, sz_drewN]; omega) | (simp only [sz_alloc, sz_set, sz_drew, sz_drewN] at *; omega)); have hfw2k0 := fun o => hb2.frozen (p := ⟨w.heap.size, o, none⟩) (by first | omega | (simp only [sz_alloc, sz_set, sz_drew, sz_drewN]; omega) | (simp only [sz_alloc, sz_set, sz_drew, sz_drewN] at *; omega)); have hlw2k0 : w.heap.size < w2.heap.size := (by first | omega | (simp only [sz_alloc, sz_set, sz_drew, sz_drewN]; omega) | (simp only [sz_alloc, sz_set, sz_drew, sz_drewN] at *; omega))))
    go_ret
    exact ⟨ret_bool (by unfold rowR; rw [X.out]; simp), HBw2.out⟩
  · have e1 : ((xs.length : Int) == L) = false := by simp [hL]
    have X := Lib.hid (decide_eq_false hL)
    clear hL
    go_enter Try.func56, Try.ntmps56
    go_wp2_with (go_at_call 72; refine (sizeInts _ _ _ _ (by omega)).mono ?_; rintro e w1 ⟨rfl, rfl⟩)
    go_ret
    exact ⟨ret_bool (by unfold rowR; rw [X.out]; simp), (by repeat (first | exact Below.refl _ _ | refine Below.alloc ?_ (by first | omega | (simp only [sz_alloc, sz_set, sz_drew, sz_drewN]; omega) | (simp only [sz_alloc, sz_set, sz_drew, sz_drewN] at *; omega)) _ | refine Below.setCell ?_ (by first | omega | (simp only [sz_alloc, sz_set, sz_drew, sz_drewN]; omega) | (simp only [sz_alloc, sz_set, sz_drew, sz_drewN] at *; omega)) _ | refine Below.drew ?_ | refine below_drewN_ ?_ _))⟩

theorem wrongRow (b d : Nat) (n L : Int) (P : Option Addr) (p : Nat) (x : List Int) (w : World) (hb : w.cell? ⟨b, 0, none⟩ = some (.int .i64 L)) (hlt : b < w.heap.size) (hd : w.cell? ⟨d, 0, none⟩ = some (.int .i64 n)) (hdlt : d < w.heap.size) (g0 : 0 ≤ n) (g1 : n ≤ 1048576)
    (rx : RdS w w.heap.size P x) (hxl : x.length ≤ 1048576) :
    Calls Try.prog 55 #[.slice P x.length p, .pointer (some ⟨b, 0, none⟩), .pointer (some ⟨d, 0, none⟩)] w fun e w' => e = .returned (.bool (!rowR n L x)) ∧ Below w.heap.size w w' := by
  go_enter Try.func55, Try.ntmps55
  go_wp2_with (go_at_call 56; refine (areStates P x p L n _ rx hxl g0 g1).mono ?_; rintro e w1 ⟨rfl, hb1⟩)
  go_ret
  exact ⟨rfl, hb1⟩

theorem indexRow (A : Option Addr) (xs : List (List Int)) (c : Nat) (b : Nat) (d : Nat) (n : Int) (L : Int) (w : World) (h1 : RdS w w.heap.size A xs) (hl : xs.length ≤ 1048576) (ht : totS xs ≤ 1048576) (hb : w.cell? ⟨b, 0, none⟩ = some (.int .i64 L)) (hlt : b < w.heap.size) (hd : w.cell? ⟨d, 0, none⟩ = some (.int .i64 n)) (hdlt : d < w.heap.size) (g0 : 0 ≤ n) (g1 : n ≤ 1048576) :
    Calls Try.prog 71 #[.slice A xs.length c, .func (.func 55) #[] #[.pointer (some ⟨b, 0, none⟩), .pointer (some ⟨d, 0, none⟩)]] w fun e w' => (∃ r : Int, e = .returned (.int .i64 r) ∧ (0 ≤ r ↔ xs.all (rowR n L) = false)) ∧ Below w.heap.size w w' := by
  go_enter Try.func71, Try.ntmps71
  go_wp2
  go_loopw [8] (fun i wr => ∃ k : Nat, k ≤ xs.length ∧ i = .int .i64 k ∧ Since w wr ∧ Hid (xs.all (rowR n L) = (xs.drop k).all (rowR n L))) (fun i _ => xs.length - (intOf i).toNat)
  case atStart => exact ⟨0, Nat.zero_le _, rfl, ⟨Below.refl _ _⟩, Lib.hid (by simp)⟩
  case round =>
    obtain ⟨k, hk, rfl, hs, heq⟩ := hrel
    by_cases hk2 : k < xs.length
    · obtain ⟨x, hx⟩ := get_some hk2
      obtain ⟨b', o, P, p, rfl, hbb, c1, hxl, rx⟩ := (h1.up hs.out).row hx
      have heq' : Hid (xs.all (rowR n L) = (x :: xs.drop (k + 1)).all (rowR n L)) := by
        have := heq.out
        rwa [drop_cons hx] at this
      have i1 : (0 : Int) ≤ (k : Int) := by omega
      have i2 : (k : Int) < (xs.length : Int) := by omega
      have hx2 : x.length ≤ 1048576 := by have := tot_at hx; rw [tot_list] at this; omega
      have W1 := Lib.hid (wrongRow b d n L P p x wr ((hs.out.cell hlt).trans hb) (Nat.lt_of_lt_of_le hlt hs.out.size) ((hs.out.cell hdlt).trans hd) (Nat.lt_of_lt_of_le hdlt hs.out.size) g0 g1 rx hx2)
      clear heq hx
      go_wp2_with (go_at_call 55; refine W1.out.mono ?_; rintro e w1 ⟨rfl, hb1⟩)
      all_goals have HB : Since w w1 := ⟨below_cat hs.out hb1 hs.out.size⟩
      · have hne : (!(rowR n L) x) = true := by assumption
        go_ret
        exact ⟨⟨_, rfl, by constructor <;> intro _ <;> first | omega | (rw [heq'.out]; simp_all)⟩, HB.out⟩
      · have hne : (!(rowR n L) x) = false := by assumption
        go_roundw
        case rel => exact ⟨k + 1, by omega, by go_num, HB, Lib.hid (by rw [heq'.out]; simp_all)⟩
        case measure => simp [intOf]; omega
    · go_wp2
      go_ret
      refine ⟨⟨_, rfl, ?_⟩, hs.out⟩
      rw [heq.out, List.drop_eq_nil_of_le (by omega)]
      simp

theorem containsRow (A : Option Addr) (xs : List (List Int)) (c : Nat) (b : Nat) (d : Nat) (n : Int) (L : Int) (w : World) (h1 : RdS w w.heap.size A xs) (hl : xs.length ≤ 1048576) (ht : totS xs ≤ 1048576) (hb : w.cell? ⟨b, 0, none⟩ = some (.int .i64 L)) (hlt : b < w.heap.size) (hd : w.cell? ⟨d, 0, none⟩ = some (.int .i64 n)) (hdlt : d < w.heap.size) (g0 : 0 ≤ n) (g1 : n ≤ 1048576) :
    Calls Try.prog 54 #[.slice A xs.length c, .func (.func 55) #[] #[.pointer (some ⟨b, 0, none⟩), .pointer (some ⟨d, 0, none⟩)]] w fun e w' => e = .returned (.bool (!xs.all (rowR n L))) ∧ Below w.heap.size w w' := by
  go_enter Try.func54, Try.ntmps54
  go_wp2_with fail
  refine (indexRow A xs c b d n L _ h1 hl ht hb hlt hd hdlt g0 g1).mono ?_
  rintro e w1 ⟨⟨r, rfl, hr⟩, hb1⟩
  have Hr := Lib.hid hr
  clear hr
  go_wp2
  go_ret
  exact ⟨ret_bool (by have := Hr.out; cases hx : xs.all (rowR n L) <;> simp_all), hb1⟩

theorem validReader_impl (v : Value) (T : Rr) (w : World) (h1 : RdRr w w.heap.size v T) (hn : T.tot ≤ 1048576) :
    Calls Try.prog 24 #[v] w fun e w' => e = .returned (.bool T.okB) ∧ Below w.heap.size w w' := by
  have hn1 : T.accept.length ≤ 1048576 := by unfold Rr.tot at hn; rw [tot_list] at hn; omega
  have hn2 : T.next.length ≤ 1048576 := by unfold Rr.tot at hn; rw [tot_list T.next] at hn; omega
  have hn3 : totS T.next ≤ 1048576 := by unfold Rr.tot at hn; rw [tot_list T.next] at hn; omega
  obtain ⟨A1, c1, A2, c2, rfl, r1, r2⟩ := h1
  by_cases hA : inB T.letters 1 3 = true
  · by_cases hB : inB T.accept.length 1 300 = true
    · by_cases hC : inB T.start 0 (T.accept.length - 1) = true
      · by_cases hN : T.next.length = T.accept.length
        · have e1 : ((T.next.length : Int) != (T.accept.length : Int)) = false := by simp [hN]
          have MM : Hid (T.okB = T.next.all (rowR T.accept.length T.letters)) := Lib.hid (by unfold Rr.okB; rw [hA, hB, hC]; simp [hN])
          clear hN
          obtain ⟨ma, mb⟩ := inB_iff.1 hB
          go_enter Try.func24, Try.ntmps24
          go_wp2_with (go_at_call 50; refine (sizeBools _ _ _ _ (by omega)).mono ?_; rintro e w1 ⟨rfl, rfl⟩)
          go_quiet (first
            | (go_at_call 51; exact Calls.quiet_of_same ((isAlphabet_lit _ _ _ hA).mono fun _ _ h => ⟨h.1, h.2.symm⟩))
            | (go_at_call 53; exact Calls.quiet_of_same ((sizeIntS _ _ _ _ (by omega)).mono fun _ _ h => ⟨h.1, h.2.symm⟩))
            | (go_at_call 52; with_reducible exact Calls.quiet_of_same ((within_lit _ _ _ _ _ hB).mono fun _ _ h => ⟨h.1, h.2.symm⟩))
            | (go_at_call 52; exact Calls.quiet_of_same ((within_lit _ _ _ _ _ hC).mono fun _ _ h => ⟨h.1, h.2.symm⟩)))
          go_wp2_with (go_at_call 54; refine (containsRow A2 T.next c2 w.heap.size (w.heap.size + 1) T.accept.length T.letters _ (r2.up (by repeat (first | exact Below.refl _ _ | refine Below.alloc ?_ (by first | omega | (simp only [sz_alloc, sz_set, sz_drew, sz_drewN]; omega) | (simp only [sz_alloc, sz_set, sz_drew, sz_drewN] at *; omega)) _ | refine Below.setCell ?_ (by first | omega | (simp only [sz_alloc, sz_set, sz_drew, sz_drewN]; omega) | (simp only [sz_alloc, sz_set, sz_drew, sz_drewN] at *; omega)) _ | refine Below.drew ?_ | refine below_drewN_ ?_ _))) hn2 hn3 (by go_simp) (by first | omega | (simp only [sz_alloc, sz_set, sz_drew, sz_drewN]; omega) | (simp only [sz_alloc, sz_set, sz_drew, sz_drewN] at *; omega)) (by go_simp) (by first | omega | (simp only [sz_alloc, sz_set, sz_drew, sz_drewN]; omega) | (simp only [sz_alloc, sz_set, sz_drew, sz_drewN] at *; omega)) (by omega) (by omega)).mono ?_; rintro e w2 ⟨rfl, hb2⟩; have HBw2 : Since w w2 := ⟨below_cat (by repeat (first | exact Below.refl _ _ | exact Since.out (by assumption) | refine Below.alloc ?_ (by first | omega | (simp only [sz_alloc, sz_set, sz_drew, sz_drewN]; omega) | (simp only [sz_alloc, sz_set, sz_drew, sz_drewN] at *; omega)) _ | refine Below.setCell ?_ (by first | omega | (simp only [sz_alloc, sz_set, sz_drew, sz_drewN]; omega) | (simp only [sz_alloc, sz_set, sz_drew, sz_drewN] at *; omega)) _ | refine Below.drew ?_ | refine below_drewN_ ?_ _)) hb2 (by first | omega | (simp only [sz_alloc, sz_set, sz_drew, sz_drewN]; omega) | (simp only [sz_alloc, sz_set, sz_drew, sz_drewN] at *; omega))⟩; have hzw2 := hb2.size; (try simp only [sz_alloc, sz_set, sz_drew, sz_drewN] at hzw2); have hcw2k0 := fun o => hb2.cell (p := ⟨w.heap.size, o, none⟩) (by first | omega | (simp only [sz_alloc, sz_set, sz_drew, sz_drewN]; omega) | (simp only [sz_alloc, sz_set, sz_drew, sz_drewN] at *; omega)); have hfw2k0 := fun o => hb2.frozen (p := ⟨w.heap.size, o, none⟩) (by first | omega | (simp only [sz_alloc, sz_set, sz_drew, sz_drewN]; omega) | (simp only [sz_alloc, sz_set, sz_drew, sz_drewN] at *; omega)); have hlw2k0 : w.heap.size < w2.heap.size := (by first | omega | (simp only [sz_alloc, sz_set, sz_drew, sz_drewN]; omega) | (simp only [sz_alloc, sz_set, sz_drew, sz_drewN] at *; omega)))
          go_ret
          exact ⟨ret_bool (by rw [MM.out]; first | done | simp), HBw2.out⟩
        · have e1 : ((T.next.length : Int) != (T.accept.length : Int)) = true := by simp; omega
          have HN := Lib.hid (decide_eq_false hN)
          clear hN
          obtain ⟨ma, mb⟩ := inB_iff.1 hB
          have MM : Hid (T.okB = false) := Lib.hid (by unfold Rr.okB; rw [hA, hB, hC, HN.out]; simp)
          go_enter Try.func24, Try.ntmps24
          go_wp2_with (go_at_call 50; refine (sizeBools _ _ _ _ (by omega)).mono ?_; rintro e w1 ⟨rfl, rfl⟩)
          go_quiet (first
            | (go_at_call 51; exact Calls.quiet_of_same ((isAlphabet_lit _ _ _ hA).mono fun _ _ h => ⟨h.1, h.2.symm⟩))
            | (go_at_call 53; exact Calls.quiet_of_same ((sizeIntS _ _ _ _ (by omega)).mono fun _ _ h => ⟨h.1, h.2.symm⟩))
            | (go_at_call 52; with_reducible exact Calls.quiet_of_same ((within_lit _ _ _ _ _ hB).mono fun _ _ h => ⟨h.1, h.2.symm⟩))
            | (go_at_call 52; exact Calls.quiet_of_same ((within_lit _ _ _ _ _ hC).mono fun _ _ h => ⟨h.1, h.2.symm⟩)))
          go_wp2
          go_ret
          exact ⟨ret_bool (by rw [MM.out]), (by repeat (first | exact Below.refl _ _ | refine Below.alloc ?_ (by first | omega | (simp only [sz_alloc, sz_set, sz_drew, sz_drewN]; omega) | (simp only [sz_alloc, sz_set, sz_drew, sz_drewN] at *; omega)) _ | refine Below.setCell ?_ (by first | omega | (simp only [sz_alloc, sz_set, sz_drew, sz_drewN]; omega) | (simp only [sz_alloc, sz_set, sz_drew, sz_drewN] at *; omega)) _ | refine Below.drew ?_ | refine below_drewN_ ?_ _))⟩
      · have hC := Bool.not_eq_true _ |>.mp hC
        obtain ⟨ma, mb⟩ := inB_iff.1 hB
        have MM : Hid (T.okB = false) := Lib.hid (by unfold Rr.okB; rw [hA, hB, hC]; simp)
        go_enter Try.func24, Try.ntmps24
        go_wp2_with (go_at_call 50; refine (sizeBools _ _ _ _ (by omega)).mono ?_; rintro e w1 ⟨rfl, rfl⟩)
        go_quiet (first
          | (go_at_call 51; exact Calls.quiet_of_same ((isAlphabet_lit _ _ _ hA).mono fun _ _ h => ⟨h.1, h.2.symm⟩))
          | (go_at_call 52; with_reducible exact Calls.quiet_of_same ((within_lit _ _ _ _ _ hB).mono fun _ _ h => ⟨h.1, h.2.symm⟩))
          | (go_at_call 52; exact Calls.quiet_of_same ((within_lit _ _ _ _ _ hC).mono fun _ _ h => ⟨h.1, h.2.symm⟩)))
        go_wp2
        go_ret
        exact ⟨ret_bool (by rw [MM.out]), (by repeat (first | exact Below.refl _ _ | refine Below.alloc ?_ (by first | omega | (simp only [sz_alloc, sz_set, sz_drew, sz_drewN]; omega) | (simp only [sz_alloc, sz_set, sz_drew, sz_drewN] at *; omega)) _ | refine Below.setCell ?_ (by first | omega | (simp only [sz_alloc, sz_set, sz_drew, sz_drewN]; omega) | (simp only [sz_alloc, sz_set, sz_drew, sz_drewN] at *; omega)) _ | refine Below.drew ?_ | refine below_drewN_ ?_ _))⟩
    · have hB := Bool.not_eq_true _ |>.mp hB
      have MM : Hid (T.okB = false) := Lib.hid (by unfold Rr.okB; rw [hA, hB]; simp)
      go_enter Try.func24, Try.ntmps24
      go_wp2_with (go_at_call 50; refine (sizeBools _ _ _ _ (by omega)).mono ?_; rintro e w1 ⟨rfl, rfl⟩)
      go_quiet (first
        | (go_at_call 51; exact Calls.quiet_of_same ((isAlphabet_lit _ _ _ hA).mono fun _ _ h => ⟨h.1, h.2.symm⟩))
        | (go_at_call 52; with_reducible exact Calls.quiet_of_same ((within_lit _ _ _ _ _ hB).mono fun _ _ h => ⟨h.1, h.2.symm⟩)))
      go_wp2
      go_ret
      exact ⟨ret_bool (by rw [MM.out]), (by repeat (first | exact Below.refl _ _ | refine Below.alloc ?_ (by first | omega | (simp only [sz_alloc, sz_set, sz_drew, sz_drewN]; omega) | (simp only [sz_alloc, sz_set, sz_drew, sz_drewN] at *; omega)) _ | refine Below.setCell ?_ (by first | omega | (simp only [sz_alloc, sz_set, sz_drew, sz_drewN]; omega) | (simp only [sz_alloc, sz_set, sz_drew, sz_drewN] at *; omega)) _ | refine Below.drew ?_ | refine below_drewN_ ?_ _))⟩
  · have hA := Bool.not_eq_true _ |>.mp hA
    have MM : Hid (T.okB = false) := Lib.hid (by unfold Rr.okB; rw [hA]; simp)
    go_enter Try.func24, Try.ntmps24
    go_wp2_with (go_at_call 50; refine (sizeBools _ _ _ _ (by omega)).mono ?_; rintro e w1 ⟨rfl, rfl⟩)
    go_quiet (first
      | (go_at_call 51; exact Calls.quiet_of_same ((isAlphabet_lit _ _ _ hA).mono fun _ _ h => ⟨h.1, h.2.symm⟩)))
    go_wp2
    go_ret
    exact ⟨ret_bool (by rw [MM.out]), (by repeat (first | exact Below.refl _ _ | refine Below.alloc ?_ (by first | omega | (simp only [sz_alloc, sz_set, sz_drew, sz_drewN]; omega) | (simp only [sz_alloc, sz_set, sz_drew, sz_drewN] at *; omega)) _ | refine Below.setCell ?_ (by first | omega | (simp only [sz_alloc, sz_set, sz_drew, sz_drewN]; omega) | (simp only [sz_alloc, sz_set, sz_drew, sz_drewN] at *; omega)) _ | refine Below.drew ?_ | refine below_drewN_ ?_ _))⟩

theorem l01Ok (b : Nat) (A1 : Option Addr) (c1 : Nat) (A2 : Option Addr) (c2 : Nat) (T : Rr) (w : World) (q0 : w.cell? ⟨b, 0, none⟩ = some (.int .i64 T.letters)) (q1 : w.cell? ⟨b, 1, none⟩ = some (.int .i64 T.start)) (q2 : w.cell? ⟨b, 2, none⟩ = some (.slice A1 T.accept.length c1)) (q3 : w.cell? ⟨b, 3, none⟩ = some (.slice A2 T.next.length c2)) (hbw : b < w.heap.size)
    (r1 : RdS w w.heap.size A2 T.next) (hn : T.tot ≤ 1048576) :
    Calls Try.prog 48 #[.pointer (some ⟨b, 0, none⟩)] w fun e w' => e = .returned (.bool T.okB) ∧ Below w.heap.size w w' := by
  have hn1 : T.next.length ≤ 1048576 := by unfold Rr.tot at hn; rw [tot_list T.next] at hn; omega
  have hn4 : T.accept.length ≤ 1048576 := by unfold Rr.tot at hn; rw [tot_list T.accept] at hn; omega
  by_cases hA : inB T.letters 1 3 = true
  · by_cases hB : inB T.accept.length 1 300 = true
    · by_cases hC : inB T.start 0 (T.accept.length - 1) = true
      · by_cases hN : T.next.length = T.accept.length
        · have MM : Hid (T.okB = T.next.all (rowR T.accept.length T.letters)) := Lib.hid (by unfold Rr.okB; rw [hA, hB, hC]; simp [hN])
          have e1 : ((T.next.length : Int) != (T.accept.length : Int)) = false := by simp [hN]
          clear hN
          obtain ⟨la, lb⟩ := inB_iff.1 hA
          obtain ⟨ma, mb⟩ := inB_iff.1 hB
          go_enter Try.func48, Try.ntmps48
          go_wp2_with (go_at_call 59; refine (l00In_lit _ _ _ _ _ (by assumption)).mono ?_; rintro e w1 ⟨rfl, rfl⟩)
          go_loopw [4] (fun i wr => ∃ k : Nat, k ≤ T.next.length ∧ i = .int .i64 k ∧ Since w wr ∧ Hid (T.next.all (rowR T.accept.length T.letters) = (T.next.drop k).all (rowR T.accept.length T.letters))) (fun i _ => T.next.length - (intOf i).toNat)
          case atStart => exact ⟨0, Nat.zero_le _, rfl, ⟨Below.refl _ _⟩, Lib.hid (by simp)⟩
          case round =>
            obtain ⟨k, hk, rfl, hs, heq⟩ := hrel
            obtain ⟨wo, rfl⟩ : ∃ wo, wo = wr := ⟨_, rfl⟩
            have p0 := (hs.out.cell (p := ⟨b, 0, none⟩) hbw).trans q0
            have p1 := (hs.out.cell (p := ⟨b, 1, none⟩) hbw).trans q1
            have p2 := (hs.out.cell (p := ⟨b, 2, none⟩) hbw).trans q2
            have p3 := (hs.out.cell (p := ⟨b, 3, none⟩) hbw).trans q3
            by_cases hlt : k < T.next.length
            · obtain ⟨x, hx⟩ := get_some hlt
              obtain ⟨b', o, P, p, rfl, hbb, cx, hxl, rx⟩ := (r1.up hs.out).row hx
              have heq' : Hid (T.next.all (rowR T.accept.length T.letters) = (x :: T.next.drop (k + 1)).all (rowR T.accept.length T.letters)) := by
                have := heq.out
                rwa [drop_cons hx] at this
              have i1 : (0 : Int) ≤ (k : Int) := by omega
              have i2 : (k : Int) < (T.next.length : Int) := by omega
              clear hx heq
              by_cases hl : (x.length : Int) = T.letters
              · have e4 : ((x.length : Int) != T.letters) = false := by simp [hl]
                have X : Hid ((rowR T.accept.length T.letters x) = x.all (stOk T.accept.length)) := Lib.hid (by unfold rowR; simp [hl])
                have HL := Lib.hid hl
                clear hl
                go_wp2
                go_quiet (fail)
                go_wp2
                go_loopw [5] (fun i wi => ∃ j : Nat, j ≤ x.length ∧ i = .int .i64 j ∧ Since wo wi ∧ Hid (x.all (stOk T.accept.length) = (x.drop j).all (stOk T.accept.length))) (fun i _ => x.length - (intOf i).toNat)
                case atStart => exact ⟨0, Nat.zero_le _, rfl, ⟨(by repeat (first | exact Below.refl _ _ | refine Below.alloc ?_ (by first | omega | (simp only [sz_alloc, sz_set, sz_drew, sz_drewN]; omega) | (simp only [sz_alloc, sz_set, sz_drew, sz_drewN] at *; omega)) _ | refine Below.setCell ?_ (by first | omega | (simp only [sz_alloc, sz_set, sz_drew, sz_drewN]; omega) | (simp only [sz_alloc, sz_set, sz_drew, sz_drewN] at *; omega)) _ | refine Below.drew ?_ | refine below_drewN_ ?_ _))⟩, Lib.hid (by simp)⟩
                case round =>
                  obtain ⟨j, hj, rfl, hs2, hej⟩ := hrel
                  have t0 := (hs2.out.cell (p := ⟨b, 0, none⟩) (Nat.lt_of_lt_of_le hbw hs.out.size)).trans p0
                  have t1 := (hs2.out.cell (p := ⟨b, 1, none⟩) (Nat.lt_of_lt_of_le hbw hs.out.size)).trans p1
                  have t2 := (hs2.out.cell (p := ⟨b, 2, none⟩) (Nat.lt_of_lt_of_le hbw hs.out.size)).trans p2
                  have t4 := (hs2.out.cell (p := ⟨b, 3, none⟩) (Nat.lt_of_lt_of_le hbw hs.out.size)).trans p3
                  have t3 := (hs2.out.cell (p := ⟨b', o + k, none⟩) hbb).trans cx
                  by_cases hlj : j < x.length
                  · obtain ⟨z, hz⟩ := get_some hlj
                    obtain ⟨f, g, rfl, hff, c5⟩ := (rx.up hs2.out).int hz
                    have hej' : Hid (x.all (stOk T.accept.length) = (stOk T.accept.length z && (x.drop (j + 1)).all (stOk T.accept.length))) := by
                      have := hej.out
                      rwa [drop_cons hz] at this
                    have j1 : (0 : Int) ≤ (j : Int) := by omega
                    have j2 : (j : Int) < (x.length : Int) := by omega
                    clear hz hej
                    by_cases hm : stOk T.accept.length z = true
                    · have HM := Lib.hid hm
                      clear hm
                      go_wp2_with (go_at_call 59; refine (l00In_lit true _ _ _ _ HM.out).mono ?_; rintro e w3 ⟨rfl, rfl⟩)
                      go_roundw
                      case rel => exact ⟨j + 1, by omega, by go_num, hs2, Lib.hid (by rw [hej'.out, HM.out]; simp)⟩
                      case measure => simp [intOf]; omega
                    · have HM := Lib.hid (Bool.not_eq_true _ |>.mp hm)
                      clear hm
                      go_wp2_with (go_at_call 59; refine (l00In_lit false _ _ _ _ HM.out).mono ?_; rintro e w3 ⟨rfl, rfl⟩)
                      go_ret
                      exact ⟨ret_bool (by rw [MM.out, heq'.out]; simp [X.out, hej'.out, HM.out]), below_cat hs.out hs2.out hs.out.size⟩
                  · have HE : Hid (x.all (stOk T.accept.length) = true) := Lib.hid (by rw [hej.out, List.drop_eq_nil_of_le (by omega)]; rfl)
                    go_wp2
                    go_roundw
                    case rel => exact ⟨k + 1, by omega, by go_num, ⟨below_cat hs.out hs2.out hs.out.size⟩, Lib.hid (by rw [heq'.out]; simp [X.out, HE.out])⟩
                    case measure => simp [intOf]; omega
              · have e4 : ((x.length : Int) != T.letters) = true := by simp; omega
                have X : Hid ((rowR T.accept.length T.letters x) = false) := Lib.hid (by unfold rowR; simp [hl])
                clear hl
                go_wp2
                go_quiet (fail)
                go_wp2
                go_ret
                exact ⟨ret_bool (by rw [MM.out, heq'.out]; simp [X.out]), (by repeat (first | exact Below.refl _ _ | exact Since.out (by assumption) | refine Below.alloc ?_ (by first | omega | (simp only [sz_alloc, sz_set, sz_drew, sz_drewN]; omega) | (simp only [sz_alloc, sz_set, sz_drew, sz_drewN] at *; omega)) _ | refine Below.setCell ?_ (by first | omega | (simp only [sz_alloc, sz_set, sz_drew, sz_drewN]; omega) | (simp only [sz_alloc, sz_set, sz_drew, sz_drewN] at *; omega)) _ | refine Below.drew ?_ | refine below_drewN_ ?_ _))⟩
            · go_wp2
              go_ret
              exact ⟨ret_bool (by rw [MM.out, heq.out, List.drop_eq_nil_of_le (by omega)]; simp), hs.out⟩
        · have e1 : ((T.next.length : Int) != (T.accept.length : Int)) = true := by simp; omega
          have HN := Lib.hid (decide_eq_false hN)
          clear hN
          obtain ⟨ma, mb⟩ := inB_iff.1 hB
          have MM : Hid (T.okB = false) := Lib.hid (by unfold Rr.okB; rw [hA, hB, hC, HN.out]; simp)
          go_enter Try.func48, Try.ntmps48
          go_wp2_with (go_at_call 59; refine (l00In_lit _ _ _ _ _ (by assumption)).mono ?_; rintro e w1 ⟨rfl, rfl⟩)
          go_ret
          exact ⟨ret_bool (by rw [MM.out]), (by repeat (first | exact Below.refl _ _ | refine Below.alloc ?_ (by first | omega | (simp only [sz_alloc, sz_set, sz_drew, sz_drewN]; omega) | (simp only [sz_alloc, sz_set, sz_drew, sz_drewN] at *; omega)) _ | refine Below.setCell ?_ (by first | omega | (simp only [sz_alloc, sz_set, sz_drew, sz_drewN]; omega) | (simp only [sz_alloc, sz_set, sz_drew, sz_drewN] at *; omega)) _ | refine Below.drew ?_ | refine below_drewN_ ?_ _))⟩
      · have hC := Bool.not_eq_true _ |>.mp hC
        obtain ⟨ma, mb⟩ := inB_iff.1 hB
        have MM : Hid (T.okB = false) := Lib.hid (by unfold Rr.okB; rw [hA, hB, hC]; simp)
        go_enter Try.func48, Try.ntmps48
        go_wp2_with (go_at_call 59; refine (l00In_lit _ _ _ _ _ (by assumption)).mono ?_; rintro e w1 ⟨rfl, rfl⟩)
        go_ret
        exact ⟨ret_bool (by rw [MM.out]), (by repeat (first | exact Below.refl _ _ | refine Below.alloc ?_ (by first | omega | (simp only [sz_alloc, sz_set, sz_drew, sz_drewN]; omega) | (simp only [sz_alloc, sz_set, sz_drew, sz_drewN] at *; omega)) _ | refine Below.setCell ?_ (by first | omega | (simp only [sz_alloc, sz_set, sz_drew, sz_drewN]; omega) | (simp only [sz_alloc, sz_set, sz_drew, sz_drewN] at *; omega)) _ | refine Below.drew ?_ | refine below_drewN_ ?_ _))⟩
    · have hB := Bool.not_eq_true _ |>.mp hB
      have MM : Hid (T.okB = false) := Lib.hid (by unfold Rr.okB; rw [hA, hB]; simp)
      go_enter Try.func48, Try.ntmps48
      go_wp2_with (go_at_call 59; refine (l00In_lit _ _ _ _ _ (by assumption)).mono ?_; rintro e w1 ⟨rfl, rfl⟩)
      go_ret
      exact ⟨ret_bool (by rw [MM.out]), (by repeat (first | exact Below.refl _ _ | refine Below.alloc ?_ (by first | omega | (simp only [sz_alloc, sz_set, sz_drew, sz_drewN]; omega) | (simp only [sz_alloc, sz_set, sz_drew, sz_drewN] at *; omega)) _ | refine Below.setCell ?_ (by first | omega | (simp only [sz_alloc, sz_set, sz_drew, sz_drewN]; omega) | (simp only [sz_alloc, sz_set, sz_drew, sz_drewN] at *; omega)) _ | refine Below.drew ?_ | refine below_drewN_ ?_ _))⟩
  · have hA := Bool.not_eq_true _ |>.mp hA
    have MM : Hid (T.okB = false) := Lib.hid (by unfold Rr.okB; rw [hA]; simp)
    go_enter Try.func48, Try.ntmps48
    go_wp2_with (go_at_call 59; refine (l00In_lit _ _ _ _ _ (by assumption)).mono ?_; rintro e w1 ⟨rfl, rfl⟩)
    go_ret
    exact ⟨ret_bool (by rw [MM.out]), (by repeat (first | exact Below.refl _ _ | refine Below.alloc ?_ (by first | omega | (simp only [sz_alloc, sz_set, sz_drew, sz_drewN]; omega) | (simp only [sz_alloc, sz_set, sz_drew, sz_drewN] at *; omega)) _ | refine Below.setCell ?_ (by first | omega | (simp only [sz_alloc, sz_set, sz_drew, sz_drewN]; omega) | (simp only [sz_alloc, sz_set, sz_drew, sz_drewN] at *; omega)) _ | refine Below.drew ?_ | refine below_drewN_ ?_ _))⟩


end Go.Proofs.Ytpknkaidmefenaa
