/-
  Contracts of the program's and the reference's ValidMany. Conditions: those in each statement.
-/
import Derived.Test.YtepjgaakihhngaaSetOk
import Derived.Test.YtepjgaakihhngaaVTurner
import Derived.Test.YtepjgaakihhngaaSMany
import Derived.BigQuiet
import Derived.Deep.QuietTactic
import Derived.Deep.RegionHeld3
import Derived.Deep.RegionWith
set_option linter.unusedVariables false
set_option linter.unusedSimpArgs false
set_option maxRecDepth 100000
set_option maxHeartbeats 1000000
namespace Go.Proofs.Ytepjgaakihhngaa
open Go.RowKit

def setOk (n : Int) (l : List Int) : Bool := setB 0 (n - 1) l
def rowM (n L : Int) (row : List (List Int)) : Bool := decide ((row.length : Int) = L) && row.all (setOk n)
def Mn.okB (T : Mn) : Bool := inB T.letters 1 3 && (inB T.accept.length 1 10 && (setOk T.accept.length T.starts && (decide (T.next.length = T.accept.length) && T.next.all (rowM T.accept.length T.letters))))

theorem sizeBools_m (A : Option Addr) (n c : Nat) (w : World) (hn : n ≤ 9223372036854775807) : Calls Try.prog 126 #[.slice A n c] w fun e w' => e = .returned (.int .i64 n) ∧ w = w' := by
  go_enter Try.func126, Try.ntmps126
  go_wp2
  go_ret
  exact ⟨rfl, rfl⟩
theorem sizeIntSS_m (A : Option Addr) (n c : Nat) (w : World) (hn : n ≤ 9223372036854775807) : Calls Try.prog 139 #[.slice A n c] w fun e w' => e = .returned (.int .i64 n) ∧ w = w' := by
  go_enter Try.func139, Try.ntmps139
  go_wp2
  go_ret
  exact ⟨rfl, rfl⟩
theorem sizeIntS_m (A : Option Addr) (n c : Nat) (w : World) (hn : n ≤ 9223372036854775807) : Calls Try.prog 127 #[.slice A n c] w fun e w' => e = .returned (.int .i64 n) ∧ w = w' := by
  go_enter Try.func127, Try.ntmps127
  go_wp2
  go_ret
  exact ⟨rfl, rfl⟩

theorem wrongSet (b : Nat) (n : Int) (P : Option Addr) (p : Nat) (x : List Int) (w : World) (hb : w.cell? ⟨b, 0, none⟩ = some (.int .i64 n)) (hlt : b < w.heap.size) (g0 : 0 ≤ n) (g1 : n ≤ 1048576) (rx : RdS w w.heap.size P x) (hxl : x.length ≤ 1048576) :
    Calls Try.prog 140 #[.slice P x.length p, .pointer (some ⟨b, 0, none⟩)] w fun e w' => e = .returned (.bool (!setOk n x)) ∧ Below w.heap.size w w' := by
  go_enter Try.func140, Try.ntmps140
  go_wp2_with (go_at_call 138; refine (isSet P x p n _ rx hxl g0 g1).mono ?_; rintro e w1 ⟨rfl, n1, rfl⟩)
  go_ret
  exact ⟨rfl, (by repeat (first | exact Below.refl _ _ | refine Below.alloc ?_ (by first | omega | (simp only [sz_alloc, sz_set, sz_drew, sz_drewN]; omega) | (simp only [sz_alloc, sz_set, sz_drew, sz_drewN] at *; omega)) _ | refine Below.setCell ?_ (by first | omega | (simp only [sz_alloc, sz_set, sz_drew, sz_drewN]; omega) | (simp only [sz_alloc, sz_set, sz_drew, sz_drewN] at *; omega)) _ | refine Below.drew ?_ | refine below_drewN_ ?_ _))⟩

theorem indexSet (A : Option Addr) (xs : List (List Int)) (c : Nat) (b : Nat) (n : Int) (w : World) (h1 : RdS w w.heap.size A xs) (hl : xs.length ≤ 1048576) (ht : totS xs ≤ 1048576) (hb : w.cell? ⟨b, 0, none⟩ = some (.int .i64 n)) (hlt : b < w.heap.size) (g0 : 0 ≤ n) (g1 : n ≤ 1048576) :
    Calls Try.prog 159 #[.slice A xs.length c, .func (.func 140) #[] #[.pointer (some ⟨b, 0, none⟩)]] w fun e w' => (∃ r : Int, e = .returned (.int .i64 r) ∧ (0 ≤ r ↔ xs.all (setOk n) = false)) ∧ Below w.heap.size w w' := by
  go_enter Try.func159, Try.ntmps159
  go_wp2
  go_loopw [8] (fun i wr => ∃ k : Nat, k ≤ xs.length ∧ i = .int .i64 k ∧ Since w wr ∧ Hid (xs.all (setOk n) = (xs.drop k).all (setOk n))) (fun i _ => xs.length - (intOf i).toNat)
  case atStart => exact ⟨0, Nat.zero_le _, rfl, ⟨Below.refl _ _⟩, Lib.hid (by simp)⟩
  case round =>
    obtain ⟨k, hk, rfl, hs, heq⟩ := hrel
    by_cases hk2 : k < xs.length
    · obtain ⟨x, hx⟩ := get_some hk2
      obtain ⟨b', o, P, p, rfl, hbb, c1, hxl, rx⟩ := (h1.up hs.out).row hx
      have heq' : Hid (xs.all (setOk n) = (x :: xs.drop (k + 1)).all (setOk n)) := by
        have := heq.out
        rwa [drop_cons hx] at this
      have i1 : (0 : Int) ≤ (k : Int) := by omega
      have i2 : (k : Int) < (xs.length : Int) := by omega
      have hx2 : x.length ≤ 1048576 := by have := tot_at hx; rw [tot_list] at this; omega
      have W1 := Lib.hid (wrongSet b n P p x wr ((hs.out.cell hlt).trans hb) (Nat.lt_of_lt_of_le hlt hs.out.size) g0 g1 rx hx2)
      clear heq hx
      go_wp2_with (go_at_call 140; refine W1.out.mono ?_; rintro e w1 ⟨rfl, hb1⟩)
      all_goals have HB : Since w w1 := ⟨below_cat hs.out hb1 hs.out.size⟩
      · have hne : (!(setOk n) x) = true := by assumption
        go_ret
        exact ⟨⟨_, rfl, by constructor <;> intro _ <;> first | omega | (rw [heq'.out]; simp_all)⟩, HB.out⟩
      · have hne : (!(setOk n) x) = false := by assumption
        go_roundw
        case rel => exact ⟨k + 1, by omega, by go_num, HB, Lib.hid (by rw [heq'.out]; simp_all)⟩
        case measure => simp [intOf]; omega
    · go_wp2
      go_ret
      refine ⟨⟨_, rfl, ?_⟩, hs.out⟩
      rw [heq.out, List.drop_eq_nil_of_le (by omega)]
      simp

theorem containsSet (A : Option Addr) (xs : List (List Int)) (c : Nat) (b : Nat) (n : Int) (w : World) (h1 : RdS w w.heap.size A xs) (hl : xs.length ≤ 1048576) (ht : totS xs ≤ 1048576) (hb : w.cell? ⟨b, 0, none⟩ = some (.int .i64 n)) (hlt : b < w.heap.size) (g0 : 0 ≤ n) (g1 : n ≤ 1048576) :
    Calls Try.prog 128 #[.slice A xs.length c, .func (.func 140) #[] #[.pointer (some ⟨b, 0, none⟩)]] w fun e w' => e = .returned (.bool (!xs.all (setOk n))) ∧ Below w.heap.size w w' := by
  go_enter Try.func128, Try.ntmps128
  go_wp2_with fail
  refine (indexSet A xs c b n _ h1 hl ht hb hlt g0 g1).mono ?_
  rintro e w1 ⟨⟨r, rfl, hr⟩, hb1⟩
  have Hr := Lib.hid hr
  clear hr
  go_wp2
  go_ret
  exact ⟨ret_bool (by have := Hr.out; cases hx : xs.all (setOk n) <;> simp_all), hb1⟩


theorem validMany_impl (v : Value) (T : Mn) (w : World) (h1 : RdMn w w.heap.size v T) (hn : T.tot ≤ 1048576) :
    Calls Try.prog 98 #[v] w fun e w' => e = .returned (.bool T.okB) ∧ Below w.heap.size w w' := by
  have hn1 : T.accept.length ≤ 1048576 := by unfold Mn.tot at hn; rw [tot_list T.accept] at hn; omega
  have hn2 : T.next.length ≤ 1048576 := by unfold Mn.tot at hn; rw [tot_list T.next] at hn; omega
  have hn3 : totS T.next ≤ 1048576 := by unfold Mn.tot at hn; rw [tot_list T.next] at hn; omega
  have hn4 : T.starts.length ≤ 1048576 := by unfold Mn.tot at hn; rw [tot_list T.starts] at hn; omega
  obtain ⟨A1, c1, A2, c2, A3, c3, rfl, r1, r2, r3⟩ := h1
  by_cases hA : inB T.letters 1 3 = true
  · by_cases hB : inB T.accept.length 1 10 = true
    · obtain ⟨ma, mb⟩ := inB_iff.1 hB
      by_cases hC : setOk T.accept.length T.starts = true
      · by_cases hN : T.next.length = T.accept.length
        · have e1 : ((T.next.length : Int) != (T.accept.length : Int)) = false := by simp [hN]
          have MM : Hid (T.okB = T.next.all (rowM T.accept.length T.letters)) := Lib.hid (by unfold Mn.okB; rw [hA, hB, hC]; simp [hN])
          clear hN
          have CS : Hid (∀ n', Calls Try.prog 138 #[.slice A1 T.starts.length c1, .int .i64 T.accept.length] (((w.alloc (Obj.cells #[Value.int .i64 T.letters, Value.slice A1 T.starts.length c1, Value.slice A2 T.accept.length c2, Value.slice A3 T.next.length c3] 48)).alloc (Obj.cells #[Value.int .i64 T.accept.length] 2)).drewN n') fun (e : Ending) w' => e = .returned (.bool true) ∧ ∃ m, w' = ((w.alloc (Obj.cells #[Value.int .i64 T.letters, Value.slice A1 T.starts.length c1, Value.slice A2 T.accept.length c2, Value.slice A3 T.next.length c3] 48)).alloc (Obj.cells #[Value.int .i64 T.accept.length] 2)).drewN m) := Lib.hid fun n' =>
            (isSet A1 T.starts c1 T.accept.length _ (r1.up (by repeat (first | exact Below.refl _ _ | refine Below.alloc ?_ (by first | omega | (simp only [sz_alloc, sz_set, sz_drew, sz_drewN]; omega) | (simp only [sz_alloc, sz_set, sz_drew, sz_drewN] at *; omega)) _ | refine Below.setCell ?_ (by first | omega | (simp only [sz_alloc, sz_set, sz_drew, sz_drewN]; omega) | (simp only [sz_alloc, sz_set, sz_drew, sz_drewN] at *; omega)) _ | refine Below.drew ?_ | refine below_drewN_ ?_ _))) hn4 (by omega) (by omega)).mono fun e w' ⟨he, hw⟩ => ⟨by rw [he]; exact congrArg (fun b => Ending.returned (Value.bool b)) hC, Drew.trans ⟨n', rfl⟩ hw⟩
          clear hC
          go_enter Try.func98, Try.ntmps98
          go_wp2_with (go_at_call 126; refine (sizeBools_m _ _ _ _ (by omega)).mono ?_; rintro e w1 ⟨rfl, rfl⟩)
          go_quiet (first
            | (go_at_call 80; exact Calls.quiet_of_same ((isAlphabet_lit _ _ _ hA).mono fun _ _ h => ⟨h.1, h.2.symm⟩))
            | (go_at_call 121; exact Calls.quiet_of_same ((within_lit _ _ _ _ _ hB).mono fun _ _ h => ⟨h.1, h.2.symm⟩))
            | (go_at_call 138; exact CS.out _)
            | (go_at_call 139; exact Calls.quiet_of_same ((sizeIntSS_m _ _ _ _ (by omega)).mono fun _ _ h => ⟨h.1, h.2.symm⟩)))
          go_wp2
          clear CS hA hB e1
          go_loopw [35] (fun i wr => ∃ k : Nat, k ≤ T.next.length ∧ i = .int .i64 k ∧ wr.cell? ⟨w.heap.size, 0, none⟩ = some (.int .i64 T.letters) ∧ wr.cell? ⟨w.heap.size + 1, 0, none⟩ = some (.int .i64 T.accept.length) ∧ w.heap.size + 2 ≤ wr.heap.size ∧ Since w wr ∧ Hid (T.next.all (rowM T.accept.length T.letters) = (T.next.drop k).all (rowM T.accept.length T.letters))) (fun i _ => T.next.length - (intOf i).toNat)
          case atStart => exact ⟨0, Nat.zero_le _, rfl, by go_simp, by go_simp, by simp, ⟨(by repeat (first | exact Below.refl _ _ | refine Below.alloc ?_ (by first | omega | (simp only [sz_alloc, sz_set, sz_drew, sz_drewN]; omega) | (simp only [sz_alloc, sz_set, sz_drew, sz_drewN] at *; omega)) _ | refine Below.setCell ?_ (by first | omega | (simp only [sz_alloc, sz_set, sz_drew, sz_drewN]; omega) | (simp only [sz_alloc, sz_set, sz_drew, sz_drewN] at *; omega)) _ | refine Below.drew ?_ | refine below_drewN_ ?_ _))⟩, Lib.hid (by simp)⟩
          case round =>
            obtain ⟨k, hk, rfl, m0, m1, hsz, hs, heq⟩ := hrel
            by_cases hlt : k < T.next.length
            · obtain ⟨x, hx⟩ := get_some hlt
              obtain ⟨b, o, P, p, rfl, hbb, c9, hxl, rx⟩ := (r3.up hs.out).row hx
              have heq' : Hid (T.next.all (rowM T.accept.length T.letters) = (x :: T.next.drop (k + 1)).all (rowM T.accept.length T.letters)) := by
                have := heq.out
                rwa [drop_cons hx] at this
              have i1 : (0 : Int) ≤ (k : Int) := by omega
              have i2 : (k : Int) < (T.next.length : Int) := by omega
              have hx0 : Cod.tot x ≤ 1048576 := Nat.le_trans (tot_at hx) hn3
              have hx2 : x.length ≤ 1048576 := by rw [tot_list] at hx0; omega
              have hx3 : totS x ≤ 1048576 := by rw [tot_list] at hx0; omega
              clear hx heq hx0
              by_cases hL : (x.length : Int) = T.letters
              · have HL := Lib.hid hL
                have e2 : ((x.length : Int) != T.letters) = false := by simp [hL]
                clear hL
                cases hv : x.all (setOk T.accept.length) with
                | true =>
                  have HV : Hid (∀ W, Below wr.heap.size wr W → Calls Try.prog 128 #[.slice P x.length p, .func (.func 140) #[] #[.pointer (some ⟨w.heap.size + 1, 0, none⟩)]] W fun (e : Ending) w' => e = .returned (.bool false) ∧ Below W.heap.size W w') := Lib.hid fun W hW =>
                    (containsSet P x p (w.heap.size + 1) T.accept.length W (rx.up hW) hx2 hx3 ((hW.cell (p := ⟨w.heap.size + 1, 0, none⟩) (by show w.heap.size + 1 < _; omega)).trans m1) (by have := hW.size; omega) (by omega) (by omega)).mono fun e w' ⟨he, hw⟩ => ⟨by rw [he, hv]; rfl, hw⟩
                  have HX := Lib.hid hv
                  clear hv
                  go_wp2
                  go_region_held3 (fun w' => w'.cell? ⟨w.heap.size, 0, none⟩ = some (.int .i64 T.letters)) (go_keep) (first
                    | (go_at_call 127; refine (sizeIntS_m _ _ _ _ (by omega)).mono ?_; rintro e w1 ⟨rfl, rfl⟩)
                    | (go_at_call 128; refine (HV.out _ (by repeat (first | exact Below.refl _ _ | refine Below.alloc ?_ (by first | omega | (simp only [sz_alloc, sz_set, sz_drew, sz_drewN]; omega) | (simp only [sz_alloc, sz_set, sz_drew, sz_drewN] at *; omega)) _ | refine Below.setCell ?_ (by first | omega | (simp only [sz_alloc, sz_set, sz_drew, sz_drewN]; omega) | (simp only [sz_alloc, sz_set, sz_drew, sz_drewN] at *; omega)) _ | refine Below.drew ?_ | refine below_drewN_ ?_ _))).mono ?_; rintro e w2 ⟨rfl, hb2⟩; have hc2 := fun b o (h : b < wr.heap.size) => hb2.cell (p := ⟨b, o, none⟩) h; have hd0 := hc2 w.heap.size 0 (by omega); have hd1 := hc2 (w.heap.size + 1) 0 (by omega); have hz2 := hb2.size; (try simp only [sz_drew] at hz2); have HB2 : Since w w2 := ⟨below_cat (hs.out.drew) hb2 (by simp only [sz_drew]; omega)⟩; clear hc2))
                  go_wp2
                  go_roundw
                  case rel => exact ⟨k + 1, by omega, by go_num, by go_simp, by go_simp, by omega, HB2, Lib.hid (by rw [heq'.out, List.all_cons]; unfold rowM; rw [HX.out]; simp [HL.out])⟩
                  case measure => simp [intOf]; omega
                | false =>
                  have HV : Hid (∀ W, Below wr.heap.size wr W → Calls Try.prog 128 #[.slice P x.length p, .func (.func 140) #[] #[.pointer (some ⟨w.heap.size + 1, 0, none⟩)]] W fun (e : Ending) w' => e = .returned (.bool true) ∧ Below W.heap.size W w') := Lib.hid fun W hW =>
                    (containsSet P x p (w.heap.size + 1) T.accept.length W (rx.up hW) hx2 hx3 ((hW.cell (p := ⟨w.heap.size + 1, 0, none⟩) (by show w.heap.size + 1 < _; omega)).trans m1) (by have := hW.size; omega) (by omega) (by omega)).mono fun e w' ⟨he, hw⟩ => ⟨by rw [he, hv]; rfl, hw⟩
                  have HX := Lib.hid hv
                  clear hv
                  go_wp2
                  go_region_held3 (fun w' => w'.cell? ⟨w.heap.size, 0, none⟩ = some (.int .i64 T.letters)) (go_keep) (first
                    | (go_at_call 127; refine (sizeIntS_m _ _ _ _ (by omega)).mono ?_; rintro e w1 ⟨rfl, rfl⟩)
                    | (go_at_call 128; refine (HV.out _ (by repeat (first | exact Below.refl _ _ | refine Below.alloc ?_ (by first | omega | (simp only [sz_alloc, sz_set, sz_drew, sz_drewN]; omega) | (simp only [sz_alloc, sz_set, sz_drew, sz_drewN] at *; omega)) _ | refine Below.setCell ?_ (by first | omega | (simp only [sz_alloc, sz_set, sz_drew, sz_drewN]; omega) | (simp only [sz_alloc, sz_set, sz_drew, sz_drewN] at *; omega)) _ | refine Below.drew ?_ | refine below_drewN_ ?_ _))).mono ?_; rintro e w2 ⟨rfl, hb2⟩; have hc2 := fun b o (h : b < wr.heap.size) => hb2.cell (p := ⟨b, o, none⟩) h; have hd0 := hc2 w.heap.size 0 (by omega); have HB2 : Since w w2 := ⟨below_cat (hs.out.drew) hb2 (by simp only [sz_drew]; omega)⟩; clear hc2))
                  go_wp2
                  go_ret
                  exact ⟨ret_bool (by rw [MM.out, heq'.out, List.all_cons]; unfold rowM; rw [HX.out]; simp), HB2.out⟩
              · have HL := Lib.hid hL
                have e2 : ((x.length : Int) != T.letters) = true := by simp [hL]
                clear hL
                go_wp2
                go_quiet ((go_at_call 127; exact Calls.quiet_of_same ((sizeIntS_m _ _ _ _ (by omega)).mono fun _ _ h => ⟨h.1, h.2.symm⟩)))
                go_wp2
                go_ret
                exact ⟨ret_bool (by rw [MM.out, heq'.out, List.all_cons]; unfold rowM; simp [HL.out]), (by repeat (first | exact Below.refl _ _ | exact Since.out (by assumption) | refine Below.alloc ?_ (by first | omega | (simp only [sz_alloc, sz_set, sz_drew, sz_drewN]; omega) | (simp only [sz_alloc, sz_set, sz_drew, sz_drewN] at *; omega)) _ | refine Below.setCell ?_ (by first | omega | (simp only [sz_alloc, sz_set, sz_drew, sz_drewN]; omega) | (simp only [sz_alloc, sz_set, sz_drew, sz_drewN] at *; omega)) _ | refine Below.drew ?_ | refine below_drewN_ ?_ _))⟩
            · go_wp2
              go_ret
              exact ⟨ret_bool (by rw [MM.out, heq.out, List.drop_eq_nil_of_le (by omega)]; rfl), hs.out⟩
        · have e1 : ((T.next.length : Int) != (T.accept.length : Int)) = true := by simp; omega
          have HN := Lib.hid (decide_eq_false hN)
          clear hN
          have CS : Hid (∀ n', Calls Try.prog 138 #[.slice A1 T.starts.length c1, .int .i64 T.accept.length] (((w.alloc (Obj.cells #[Value.int .i64 T.letters, Value.slice A1 T.starts.length c1, Value.slice A2 T.accept.length c2, Value.slice A3 T.next.length c3] 48)).alloc (Obj.cells #[Value.int .i64 T.accept.length] 2)).drewN n') fun (e : Ending) w' => e = .returned (.bool true) ∧ ∃ m, w' = ((w.alloc (Obj.cells #[Value.int .i64 T.letters, Value.slice A1 T.starts.length c1, Value.slice A2 T.accept.length c2, Value.slice A3 T.next.length c3] 48)).alloc (Obj.cells #[Value.int .i64 T.accept.length] 2)).drewN m) := Lib.hid fun n' =>
            (isSet A1 T.starts c1 T.accept.length _ (r1.up (by repeat (first | exact Below.refl _ _ | refine Below.alloc ?_ (by first | omega | (simp only [sz_alloc, sz_set, sz_drew, sz_drewN]; omega) | (simp only [sz_alloc, sz_set, sz_drew, sz_drewN] at *; omega)) _ | refine Below.setCell ?_ (by first | omega | (simp only [sz_alloc, sz_set, sz_drew, sz_drewN]; omega) | (simp only [sz_alloc, sz_set, sz_drew, sz_drewN] at *; omega)) _ | refine Below.drew ?_ | refine below_drewN_ ?_ _))) hn4 (by omega) (by omega)).mono fun e w' ⟨he, hw⟩ => ⟨by rw [he]; exact congrArg (fun b => Ending.returned (Value.bool b)) hC, Drew.trans ⟨n', rfl⟩ hw⟩
          have MM : Hid (T.okB = false) := Lib.hid (by unfold Mn.okB; rw [hA, hB, hC, HN.out]; simp)
          go_enter Try.func98, Try.ntmps98
          go_wp2_with (go_at_call 126; refine (sizeBools_m _ _ _ _ (by omega)).mono ?_; rintro e w1 ⟨rfl, rfl⟩)
          go_quiet (first
            | (go_at_call 80; exact Calls.quiet_of_same ((isAlphabet_lit _ _ _ hA).mono fun _ _ h => ⟨h.1, h.2.symm⟩))
            | (go_at_call 121; exact Calls.quiet_of_same ((within_lit _ _ _ _ _ hB).mono fun _ _ h => ⟨h.1, h.2.symm⟩))
            | (go_at_call 138; exact CS.out _)
            | (go_at_call 139; exact Calls.quiet_of_same ((sizeIntSS_m _ _ _ _ (by omega)).mono fun _ _ h => ⟨h.1, h.2.symm⟩)))
          go_wp2
          go_ret
          exact ⟨ret_bool (by rw [MM.out]), (by repeat (first | exact Below.refl _ _ | refine Below.alloc ?_ (by first | omega | (simp only [sz_alloc, sz_set, sz_drew, sz_drewN]; omega) | (simp only [sz_alloc, sz_set, sz_drew, sz_drewN] at *; omega)) _ | refine Below.setCell ?_ (by first | omega | (simp only [sz_alloc, sz_set, sz_drew, sz_drewN]; omega) | (simp only [sz_alloc, sz_set, sz_drew, sz_drewN] at *; omega)) _ | refine Below.drew ?_ | refine below_drewN_ ?_ _))⟩
      · have hC := Bool.not_eq_true _ |>.mp hC
        have CS : Hid (∀ n', Calls Try.prog 138 #[.slice A1 T.starts.length c1, .int .i64 T.accept.length] (((w.alloc (Obj.cells #[Value.int .i64 T.letters, Value.slice A1 T.starts.length c1, Value.slice A2 T.accept.length c2, Value.slice A3 T.next.length c3] 48)).alloc (Obj.cells #[Value.int .i64 T.accept.length] 2)).drewN n') fun (e : Ending) w' => e = .returned (.bool false) ∧ ∃ m, w' = ((w.alloc (Obj.cells #[Value.int .i64 T.letters, Value.slice A1 T.starts.length c1, Value.slice A2 T.accept.length c2, Value.slice A3 T.next.length c3] 48)).alloc (Obj.cells #[Value.int .i64 T.accept.length] 2)).drewN m) := Lib.hid fun n' =>
          (isSet A1 T.starts c1 T.accept.length _ (r1.up (by repeat (first | exact Below.refl _ _ | refine Below.alloc ?_ (by first | omega | (simp only [sz_alloc, sz_set, sz_drew, sz_drewN]; omega) | (simp only [sz_alloc, sz_set, sz_drew, sz_drewN] at *; omega)) _ | refine Below.setCell ?_ (by first | omega | (simp only [sz_alloc, sz_set, sz_drew, sz_drewN]; omega) | (simp only [sz_alloc, sz_set, sz_drew, sz_drewN] at *; omega)) _ | refine Below.drew ?_ | refine below_drewN_ ?_ _))) hn4 (by omega) (by omega)).mono fun e w' ⟨he, hw⟩ => ⟨by rw [he]; exact congrArg (fun b => Ending.returned (Value.bool b)) hC, Drew.trans ⟨n', rfl⟩ hw⟩
        have MM : Hid (T.okB = false) := Lib.hid (by unfold Mn.okB; rw [hA, hB, hC]; simp)
        go_enter Try.func98, Try.ntmps98
        go_wp2_with (go_at_call 126; refine (sizeBools_m _ _ _ _ (by omega)).mono ?_; rintro e w1 ⟨rfl, rfl⟩)
        go_quiet (first
          | (go_at_call 80; exact Calls.quiet_of_same ((isAlphabet_lit _ _ _ hA).mono fun _ _ h => ⟨h.1, h.2.symm⟩))
          | (go_at_call 121; exact Calls.quiet_of_same ((within_lit _ _ _ _ _ hB).mono fun _ _ h => ⟨h.1, h.2.symm⟩))
          | (go_at_call 138; exact CS.out _))
        go_wp2
        go_ret
        exact ⟨ret_bool (by rw [MM.out]), (by repeat (first | exact Below.refl _ _ | refine Below.alloc ?_ (by first | omega | (simp only [sz_alloc, sz_set, sz_drew, sz_drewN]; omega) | (simp only [sz_alloc, sz_set, sz_drew, sz_drewN] at *; omega)) _ | refine Below.setCell ?_ (by first | omega | (simp only [sz_alloc, sz_set, sz_drew, sz_drewN]; omega) | (simp only [sz_alloc, sz_set, sz_drew, sz_drewN] at *; omega)) _ | refine Below.drew ?_ | refine below_drewN_ ?_ _))⟩
    · have hB := Bool.not_eq_true _ |>.mp hB
      have MM : Hid (T.okB = false) := Lib.hid (by unfold Mn.okB; rw [hA, hB]; simp)
      go_enter Try.func98, Try.ntmps98
      go_wp2_with (go_at_call 126; refine (sizeBools_m _ _ _ _ (by omega)).mono ?_; rintro e w1 ⟨rfl, rfl⟩)
      go_quiet (first
        | (go_at_call 80; exact Calls.quiet_of_same ((isAlphabet_lit _ _ _ hA).mono fun _ _ h => ⟨h.1, h.2.symm⟩))
        | (go_at_call 121; exact Calls.quiet_of_same ((within_lit _ _ _ _ _ hB).mono fun _ _ h => ⟨h.1, h.2.symm⟩)))
      go_wp2
      go_ret
      exact ⟨ret_bool (by rw [MM.out]), (by repeat (first | exact Below.refl _ _ | refine Below.alloc ?_ (by first | omega | (simp only [sz_alloc, sz_set, sz_drew, sz_drewN]; omega) | (simp only [sz_alloc, sz_set, sz_drew, sz_drewN] at *; omega)) _ | refine Below.setCell ?_ (by first | omega | (simp only [sz_alloc, sz_set, sz_drew, sz_drewN]; omega) | (simp only [sz_alloc, sz_set, sz_drew, sz_drewN] at *; omega)) _ | refine Below.drew ?_ | refine below_drewN_ ?_ _))⟩
  · have hA := Bool.not_eq_true _ |>.mp hA
    have MM : Hid (T.okB = false) := Lib.hid (by unfold Mn.okB; rw [hA]; simp)
    go_enter Try.func98, Try.ntmps98
    go_wp2_with (go_at_call 126; refine (sizeBools_m _ _ _ _ (by omega)).mono ?_; rintro e w1 ⟨rfl, rfl⟩)
    go_quiet (first
      | (go_at_call 80; exact Calls.quiet_of_same ((isAlphabet_lit _ _ _ hA).mono fun _ _ h => ⟨h.1, h.2.symm⟩)))
    go_wp2
    go_ret
    exact ⟨ret_bool (by rw [MM.out]), (by repeat (first | exact Below.refl _ _ | refine Below.alloc ?_ (by first | omega | (simp only [sz_alloc, sz_set, sz_drew, sz_drewN]; omega) | (simp only [sz_alloc, sz_set, sz_drew, sz_drewN] at *; omega)) _ | refine Below.setCell ?_ (by first | omega | (simp only [sz_alloc, sz_set, sz_drew, sz_drewN]; omega) | (simp only [sz_alloc, sz_set, sz_drew, sz_drewN] at *; omega)) _ | refine Below.drew ?_ | refine below_drewN_ ?_ _))⟩

theorem l01Many (b : Nat) (A1 : Option Addr) (c1 : Nat) (A2 : Option Addr) (c2 : Nat) (A3 : Option Addr) (c3 : Nat) (T : Mn) (w : World) (q0 : w.cell? ⟨b, 0, none⟩ = some (.int .i64 T.letters)) (q1 : w.cell? ⟨b, 1, none⟩ = some (.slice A1 T.starts.length c1)) (q2 : w.cell? ⟨b, 2, none⟩ = some (.slice A2 T.accept.length c2)) (q3 : w.cell? ⟨b, 3, none⟩ = some (.slice A3 T.next.length c3)) (hbw : b < w.heap.size)
    (r0 : RdS w w.heap.size A1 T.starts) (r1 : RdS w w.heap.size A3 T.next) (hn : T.tot ≤ 1048576) :
    Calls Try.prog 95 #[.pointer (some ⟨b, 0, none⟩)] w fun e w' => e = .returned (.bool T.okB) ∧ Below w.heap.size w w' := by
  have hn1 : T.next.length ≤ 1048576 := by unfold Mn.tot at hn; rw [tot_list T.next] at hn; omega
  have hn6 : totS T.next ≤ 1048576 := by unfold Mn.tot at hn; rw [tot_list T.next] at hn; omega
  have hn5 : T.starts.length ≤ 1048576 := by unfold Mn.tot at hn; rw [tot_list T.starts] at hn; omega
  have hn4 : T.accept.length ≤ 1048576 := by unfold Mn.tot at hn; rw [tot_list T.accept] at hn; omega
  by_cases hA : inB T.letters 1 3 = true
  · by_cases hB : inB T.accept.length 1 10 = true
    · by_cases hC : setOk T.accept.length T.starts = true
      · by_cases hN : T.next.length = T.accept.length
        · have MM : Hid (T.okB = T.next.all (rowM T.accept.length T.letters)) := Lib.hid (by unfold Mn.okB; rw [hA, hB, hC]; simp [hN])
          have e1 : ((T.next.length : Int) != (T.accept.length : Int)) = false := by simp [hN]
          clear hN
          obtain ⟨la, lb⟩ := inB_iff.1 hA
          obtain ⟨ma, mb⟩ := inB_iff.1 hB
          have CS : Hid (∀ W, Below w.heap.size w W → Calls Try.prog 136 #[.slice A1 T.starts.length c1, .int .i64 0, .int .i64 (T.accept.length - 1)] W fun (e : Ending) w' => e = .returned (.bool true) ∧ ∃ m, w' = W.drewN m) := Lib.hid fun W hW =>
            (l00Rises A1 T.starts c1 0 (T.accept.length - 1) W (r0.up hW) hn5).mono fun e w' ⟨he, hw⟩ => ⟨by rw [he]; exact congrArg (fun b => Ending.returned (Value.bool b)) hC, hw⟩
          clear hC
          go_enter Try.func95, Try.ntmps95
          go_wp2_with (first | (go_at_call 78; refine (l00In_lit _ _ _ _ _ (by assumption)).mono ?_; rintro e w1 ⟨rfl, rfl⟩) | (go_at_call 136; refine (CS.out _ (by repeat (first | exact Below.refl _ _ | refine Below.alloc ?_ (by first | omega | (simp only [sz_alloc, sz_set, sz_drew, sz_drewN]; omega) | (simp only [sz_alloc, sz_set, sz_drew, sz_drewN] at *; omega)) _ | refine Below.setCell ?_ (by first | omega | (simp only [sz_alloc, sz_set, sz_drew, sz_drewN]; omega) | (simp only [sz_alloc, sz_set, sz_drew, sz_drewN] at *; omega)) _ | refine Below.drew ?_ | refine below_drewN_ ?_ _))).mono ?_; rintro e wq ⟨rfl, nq, rfl⟩))
          go_loopw [4] (fun i wr => ∃ k : Nat, k ≤ T.next.length ∧ i = .int .i64 k ∧ Since w wr ∧ Hid (T.next.all (rowM T.accept.length T.letters) = (T.next.drop k).all (rowM T.accept.length T.letters))) (fun i _ => T.next.length - (intOf i).toNat)
          case atStart => exact ⟨0, Nat.zero_le _, rfl, ⟨(by repeat (first | exact Below.refl _ _ | refine Below.alloc ?_ (by first | omega | (simp only [sz_alloc, sz_set, sz_drew, sz_drewN]; omega) | (simp only [sz_alloc, sz_set, sz_drew, sz_drewN] at *; omega)) _ | refine Below.setCell ?_ (by first | omega | (simp only [sz_alloc, sz_set, sz_drew, sz_drewN]; omega) | (simp only [sz_alloc, sz_set, sz_drew, sz_drewN] at *; omega)) _ | refine Below.drew ?_ | refine below_drewN_ ?_ _))⟩, Lib.hid (by simp)⟩
          case round =>
            obtain ⟨k, hk, rfl, hs, heq⟩ := hrel
            obtain ⟨wo, rfl⟩ : ∃ wo, wo = wr := ⟨_, rfl⟩
            have p0 := (hs.out.cell (p := ⟨b, 0, none⟩) hbw).trans q0
            have p1 := (hs.out.cell (p := ⟨b, 1, none⟩) hbw).trans q1
            have p2 := (hs.out.cell (p := ⟨b, 2, none⟩) hbw).trans q2
            have p3 := (hs.out.cell (p := ⟨b, 3, none⟩) hbw).trans q3
            by_cases hlt : k < T.next.length
            · obtain ⟨x, hx⟩ := get_some hlt
              obtain ⟨b', o, P, p, rfl, hbb, cx, hxl, rx⟩ := (r1.up hs.out).row hx
              have heq' : Hid (T.next.all (rowM T.accept.length T.letters) = (x :: T.next.drop (k + 1)).all (rowM T.accept.length T.letters)) := by
                have := heq.out
                rwa [drop_cons hx] at this
              have i1 : (0 : Int) ≤ (k : Int) := by omega
              have i2 : (k : Int) < (T.next.length : Int) := by omega
              have hx0 : Cod.tot x ≤ 1048576 := Nat.le_trans (tot_at hx) hn6
              have hx1 : x.length ≤ 1048576 := by rw [tot_list] at hx0; omega
              have hx2 : totS x ≤ 1048576 := by rw [tot_list] at hx0; omega
              clear hx heq hx0
              by_cases hl : (x.length : Int) = T.letters
              · have e4 : ((x.length : Int) != T.letters) = false := by simp [hl]
                have X : Hid ((rowM T.accept.length T.letters x) = x.all (setOk T.accept.length)) := Lib.hid (by unfold rowM; simp [hl])
                have HL := Lib.hid hl
                clear hl
                go_wp2
                go_quiet (fail)
                go_wp2
                go_loopw [5] (fun i wi => ∃ j : Nat, j ≤ x.length ∧ i = .int .i64 j ∧ Since wo wi ∧ Hid (x.all (setOk T.accept.length) = (x.drop j).all (setOk T.accept.length))) (fun i _ => x.length - (intOf i).toNat)
                case atStart => exact ⟨0, Nat.zero_le _, rfl, ⟨(by repeat (first | exact Below.refl _ _ | refine Below.alloc ?_ (by first | omega | (simp only [sz_alloc, sz_set, sz_drew, sz_drewN]; omega) | (simp only [sz_alloc, sz_set, sz_drew, sz_drewN] at *; omega)) _ | refine Below.setCell ?_ (by first | omega | (simp only [sz_alloc, sz_set, sz_drew, sz_drewN]; omega) | (simp only [sz_alloc, sz_set, sz_drew, sz_drewN] at *; omega)) _ | refine Below.drew ?_ | refine below_drewN_ ?_ _))⟩, Lib.hid (by simp)⟩
                case round =>
                  obtain ⟨j, hj, rfl, hs2, hej⟩ := hrel
                  have t0 := (hs2.out.cell (p := ⟨b, 0, none⟩) (Nat.lt_of_lt_of_le hbw hs.out.size)).trans p0
                  have t1 := (hs2.out.cell (p := ⟨b, 1, none⟩) (Nat.lt_of_lt_of_le hbw hs.out.size)).trans p1
                  have t2 := (hs2.out.cell (p := ⟨b, 2, none⟩) (Nat.lt_of_lt_of_le hbw hs.out.size)).trans p2
                  have t4 := (hs2.out.cell (p := ⟨b, 3, none⟩) (Nat.lt_of_lt_of_le hbw hs.out.size)).trans p3
                  have t3 := (hs2.out.cell (p := ⟨b', o + k, none⟩) hbb).trans cx
                  by_cases hlj : j < x.length
                  · obtain ⟨z, hz⟩ := get_some hlj
                    obtain ⟨f, g, Z, ζ, rfl, hff, c5, hzl, rz⟩ := (rx.up hs2.out).row hz
                    have hz1 : z.length ≤ 1048576 := by have := tot_at hz; rw [tot_list] at this; omega
                    have hej' : Hid (x.all (setOk T.accept.length) = (setOk T.accept.length z && (x.drop (j + 1)).all (setOk T.accept.length))) := by
                      have := hej.out
                      rwa [drop_cons hz] at this
                    have j1 : (0 : Int) ≤ (j : Int) := by omega
                    have j2 : (j : Int) < (x.length : Int) := by omega
                    clear hz hej
                    by_cases hm : setOk T.accept.length z = true
                    · have HM := Lib.hid hm
                      clear hm
                      have CZ : Hid (∀ n', Calls Try.prog 136 #[.slice Z z.length ζ, .int .i64 0, .int .i64 (T.accept.length - 1)] (wr.drewN n') fun (e : Ending) w' => e = .returned (.bool true) ∧ ∃ m, w' = wr.drewN m) := Lib.hid fun n' =>
                        (l00Rises Z z ζ 0 (T.accept.length - 1) _ (Drew.rd ⟨n', rfl⟩ rz) hz1).mono fun e w' ⟨he, hw⟩ => ⟨by rw [he]; exact congrArg (fun b => Ending.returned (Value.bool b)) HM.out, Drew.trans ⟨n', rfl⟩ hw⟩
                      go_wp2_with (go_at_call 136; refine (CZ.out 0).mono ?_; rintro e w3 ⟨rfl, n3, rfl⟩)
                      go_roundw
                      case rel => exact ⟨j + 1, by omega, by go_num, ⟨below_drewN_ hs2.out _⟩, Lib.hid (by rw [hej'.out, HM.out]; simp)⟩
                      case measure => simp [intOf]; omega
                    · have HM := Lib.hid (Bool.not_eq_true _ |>.mp hm)
                      clear hm
                      have CZ : Hid (∀ n', Calls Try.prog 136 #[.slice Z z.length ζ, .int .i64 0, .int .i64 (T.accept.length - 1)] (wr.drewN n') fun (e : Ending) w' => e = .returned (.bool false) ∧ ∃ m, w' = wr.drewN m) := Lib.hid fun n' =>
                        (l00Rises Z z ζ 0 (T.accept.length - 1) _ (Drew.rd ⟨n', rfl⟩ rz) hz1).mono fun e w' ⟨he, hw⟩ => ⟨by rw [he]; exact congrArg (fun b => Ending.returned (Value.bool b)) HM.out, Drew.trans ⟨n', rfl⟩ hw⟩
                      go_wp2_with (go_at_call 136; refine (CZ.out 0).mono ?_; rintro e w3 ⟨rfl, n3, rfl⟩)
                      go_ret
                      exact ⟨ret_bool (by rw [MM.out, heq'.out]; simp [X.out, hej'.out, HM.out]), below_drewN_ (below_cat hs.out hs2.out hs.out.size) _⟩
                  · have HE : Hid (x.all (setOk T.accept.length) = true) := Lib.hid (by rw [hej.out, List.drop_eq_nil_of_le (by omega)]; rfl)
                    go_wp2
                    go_roundw
                    case rel => exact ⟨k + 1, by omega, by go_num, ⟨below_cat hs.out hs2.out hs.out.size⟩, Lib.hid (by rw [heq'.out]; simp [X.out, HE.out])⟩
                    case measure => simp [intOf]; omega
              · have e4 : ((x.length : Int) != T.letters) = true := by simp; omega
                have X : Hid ((rowM T.accept.length T.letters x) = false) := Lib.hid (by unfold rowM; simp [hl])
                clear hl
                go_wp2
                go_quiet (fail)
                go_wp2
                go_ret
                exact ⟨ret_bool (by rw [MM.out, heq'.out]; simp [X.out]), (by repeat (first | exact Below.refl _ _ | exact Since.out (by assumption) | refine Below.alloc ?_ (by first | omega | (simp only [sz_alloc, sz_set, sz_drew, sz_drewN]; omega) | (simp only [sz_alloc, sz_set, sz_drew, sz_drewN] at *; omega)) _ | refine Below.setCell ?_ (by first | omega | (simp only [sz_alloc, sz_set, sz_drew, sz_drewN]; omega) | (simp only [sz_alloc, sz_set, sz_drew, sz_drewN] at *; omega)) _ | refine Below.drew ?_ | refine below_drewN_ ?_ _))⟩
            · go_wp2
              go_ret
              exact ⟨ret_bool (by rw [MM.out, heq.out, List.drop_eq_nil_of_le (by omega)]; simp), hs.out⟩
        · have e1 : ((T.next.length : Int) != (T.accept.length : Int)) = true := by simp; omega
          have HN := Lib.hid (decide_eq_false hN)
          clear hN
          obtain ⟨ma, mb⟩ := inB_iff.1 hB
          have MM : Hid (T.okB = false) := Lib.hid (by unfold Mn.okB; rw [hA, hB, hC, HN.out]; simp)
          have CS : Hid (∀ W, Below w.heap.size w W → Calls Try.prog 136 #[.slice A1 T.starts.length c1, .int .i64 0, .int .i64 (T.accept.length - 1)] W fun (e : Ending) w' => e = .returned (.bool true) ∧ ∃ m, w' = W.drewN m) := Lib.hid fun W hW =>
            (l00Rises A1 T.starts c1 0 (T.accept.length - 1) W (r0.up hW) hn5).mono fun e w' ⟨he, hw⟩ => ⟨by rw [he]; exact congrArg (fun b => Ending.returned (Value.bool b)) hC, hw⟩
          clear hC
          go_enter Try.func95, Try.ntmps95
          go_wp2_with (first | (go_at_call 78; refine (l00In_lit _ _ _ _ _ (by assumption)).mono ?_; rintro e w1 ⟨rfl, rfl⟩) | (go_at_call 136; refine (CS.out _ (by repeat (first | exact Below.refl _ _ | refine Below.alloc ?_ (by first | omega | (simp only [sz_alloc, sz_set, sz_drew, sz_drewN]; omega) | (simp only [sz_alloc, sz_set, sz_drew, sz_drewN] at *; omega)) _ | refine Below.setCell ?_ (by first | omega | (simp only [sz_alloc, sz_set, sz_drew, sz_drewN]; omega) | (simp only [sz_alloc, sz_set, sz_drew, sz_drewN] at *; omega)) _ | refine Below.drew ?_ | refine below_drewN_ ?_ _))).mono ?_; rintro e wq ⟨rfl, nq, rfl⟩))
          go_ret
          exact ⟨ret_bool (by rw [MM.out]), (by repeat (first | exact Below.refl _ _ | refine Below.alloc ?_ (by first | omega | (simp only [sz_alloc, sz_set, sz_drew, sz_drewN]; omega) | (simp only [sz_alloc, sz_set, sz_drew, sz_drewN] at *; omega)) _ | refine Below.setCell ?_ (by first | omega | (simp only [sz_alloc, sz_set, sz_drew, sz_drewN]; omega) | (simp only [sz_alloc, sz_set, sz_drew, sz_drewN] at *; omega)) _ | refine Below.drew ?_ | refine below_drewN_ ?_ _))⟩
      · have hC := Bool.not_eq_true _ |>.mp hC
        obtain ⟨ma, mb⟩ := inB_iff.1 hB
        have MM : Hid (T.okB = false) := Lib.hid (by unfold Mn.okB; rw [hA, hB, hC]; simp)
        have CS : Hid (∀ W, Below w.heap.size w W → Calls Try.prog 136 #[.slice A1 T.starts.length c1, .int .i64 0, .int .i64 (T.accept.length - 1)] W fun (e : Ending) w' => e = .returned (.bool false) ∧ ∃ m, w' = W.drewN m) := Lib.hid fun W hW =>
          (l00Rises A1 T.starts c1 0 (T.accept.length - 1) W (r0.up hW) hn5).mono fun e w' ⟨he, hw⟩ => ⟨by rw [he]; exact congrArg (fun b => Ending.returned (Value.bool b)) hC, hw⟩
        clear hC
        go_enter Try.func95, Try.ntmps95
        go_wp2_with (first | (go_at_call 78; refine (l00In_lit _ _ _ _ _ (by assumption)).mono ?_; rintro e w1 ⟨rfl, rfl⟩) | (go_at_call 136; refine (CS.out _ (by repeat (first | exact Below.refl _ _ | refine Below.alloc ?_ (by first | omega | (simp only [sz_alloc, sz_set, sz_drew, sz_drewN]; omega) | (simp only [sz_alloc, sz_set, sz_drew, sz_drewN] at *; omega)) _ | refine Below.setCell ?_ (by first | omega | (simp only [sz_alloc, sz_set, sz_drew, sz_drewN]; omega) | (simp only [sz_alloc, sz_set, sz_drew, sz_drewN] at *; omega)) _ | refine Below.drew ?_ | refine below_drewN_ ?_ _))).mono ?_; rintro e wq ⟨rfl, nq, rfl⟩))
        go_ret
        exact ⟨ret_bool (by rw [MM.out]), (by repeat (first | exact Below.refl _ _ | refine Below.alloc ?_ (by first | omega | (simp only [sz_alloc, sz_set, sz_drew, sz_drewN]; omega) | (simp only [sz_alloc, sz_set, sz_drew, sz_drewN] at *; omega)) _ | refine Below.setCell ?_ (by first | omega | (simp only [sz_alloc, sz_set, sz_drew, sz_drewN]; omega) | (simp only [sz_alloc, sz_set, sz_drew, sz_drewN] at *; omega)) _ | refine Below.drew ?_ | refine below_drewN_ ?_ _))⟩
    · have hB := Bool.not_eq_true _ |>.mp hB
      have MM : Hid (T.okB = false) := Lib.hid (by unfold Mn.okB; rw [hA, hB]; simp)
      go_enter Try.func95, Try.ntmps95
      go_wp2_with (go_at_call 78; refine (l00In_lit _ _ _ _ _ (by assumption)).mono ?_; rintro e w1 ⟨rfl, rfl⟩)
      go_ret
      exact ⟨ret_bool (by rw [MM.out]), (by repeat (first | exact Below.refl _ _ | refine Below.alloc ?_ (by first | omega | (simp only [sz_alloc, sz_set, sz_drew, sz_drewN]; omega) | (simp only [sz_alloc, sz_set, sz_drew, sz_drewN] at *; omega)) _ | refine Below.setCell ?_ (by first | omega | (simp only [sz_alloc, sz_set, sz_drew, sz_drewN]; omega) | (simp only [sz_alloc, sz_set, sz_drew, sz_drewN] at *; omega)) _ | refine Below.drew ?_ | refine below_drewN_ ?_ _))⟩
  · have hA := Bool.not_eq_true _ |>.mp hA
    have MM : Hid (T.okB = false) := Lib.hid (by unfold Mn.okB; rw [hA]; simp)
    go_enter Try.func95, Try.ntmps95
    go_wp2_with (go_at_call 78; refine (l00In_lit _ _ _ _ _ (by assumption)).mono ?_; rintro e w1 ⟨rfl, rfl⟩)
    go_ret
    exact ⟨ret_bool (by rw [MM.out]), (by repeat (first | exact Below.refl _ _ | refine Below.alloc ?_ (by first | omega | (simp only [sz_alloc, sz_set, sz_drew, sz_drewN]; omega) | (simp only [sz_alloc, sz_set, sz_drew, sz_drewN] at *; omega)) _ | refine Below.setCell ?_ (by first | omega | (simp only [sz_alloc, sz_set, sz_drew, sz_drewN]; omega) | (simp only [sz_alloc, sz_set, sz_drew, sz_drewN] at *; omega)) _ | refine Below.drew ?_ | refine below_drewN_ ?_ _))⟩


end Go.Proofs.Ytepjgaakihhngaa
