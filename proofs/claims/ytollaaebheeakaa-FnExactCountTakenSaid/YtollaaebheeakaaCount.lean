/-
  Contracts of the program's and the reference's CountTaken. Conditions: those in each statement.
-/
import Derived.Test.YtollaaebheeakaaVReader
import Derived.Test.YtollaaebheeakaaInts
import Derived.Test.YtollaaebheeakaaCountLaw
import Derived.StillTailTactics
set_option linter.unusedVariables false
set_option linter.unusedSimpArgs false
set_option maxRecDepth 100000
set_option maxHeartbeats 1000000
namespace Go.Proofs.Ytollaaebheeakaa
open Go.RowKit

theorem infoInt64 : (Try.prog.info? 2).map (fun i => (i.zero, i.size, i.bytes)) = some (some (.int .i64 0), 1, 8) := by kernel_rfl
structure Rr.Ok (T : Rr) : Prop where
  l1 : 1 ≤ T.letters
  l3 : T.letters ≤ 3
  n1 : 1 ≤ T.accept.length
  n300 : T.accept.length ≤ 300
  s0 : 0 ≤ T.start
  s1 : T.start < T.accept.length
  same : T.next.length = T.accept.length
  row : ∀ r ∈ T.next, (r.length : Int) = T.letters ∧ ∀ x ∈ r, 0 ≤ x ∧ x < T.accept.length
theorem Rr.ok_of {T : Rr} (h : T.okB = true) : T.Ok := by
  unfold Rr.okB inB at h
  simp only [Bool.and_eq_true, List.all_eq_true, decide_eq_true_eq] at h
  obtain ⟨⟨a1, a2⟩, ⟨b1, b2⟩, ⟨c1, c2⟩, d, e⟩ := h
  refine ⟨a1, a2, by omega, by omega, c1, by omega, d, fun r hr => ?_⟩
  have := e r hr
  unfold rowR stOk inB at this
  simp only [Bool.and_eq_true, List.all_eq_true, decide_eq_true_eq] at this
  exact ⟨this.1, fun x hx => by have := this.2 x hx; omega⟩

def countV (T : Rr) (L : Int) : Int := if T.okB then (if inB L 0 30 then countC T.next.length T.accept T.next T.start L.toNat else 0) else 0
def countE (T : Rr) (L : Int) : Int := if T.okB then (if inB L 0 30 then 0 else 2) else 1
theorem countTaken (v : Value) (T : Rr) (L : Nat) (w : World) (h1 : RdRr w w.heap.size v T) (hok : T.okB = true) (hL : L ≤ 30) :
    Calls Try.prog 75 #[v, .int .i64 L] w fun e w' => e = .returned (.int .i64 (countC T.next.length T.accept T.next T.start L)) ∧ Below w.heap.size w w' := by
  have OK := Rr.ok_of hok
  obtain ⟨A1, c1, A2, c2, rfl, r1, r2⟩ := h1
  obtain ⟨letters, start, accept, next⟩ := T
  obtain ⟨l1, l3, n1, n300, s0, s1, hsame, hrow⟩ := OK
  clear hok
  simp only at *
  obtain ⟨st, rfl⟩ := Int.eq_ofNat_of_zero_le s0
  have hst : st < next.length := by omega
  have hn : next.length ≤ 300 := by omega
  have HS := Lib.hid hsame
  have HR := Lib.hid hrow
  clear hsame hrow s0 s1
  have hmk := make_full (P := Try.prog) 37 2 _ _ _ _ Try.underlying37 infoInt64 rfl next.length (by omega) (by omega)
  have i0 : (0 : Int) ≤ (st : Int) := by omega
  have i1 : (st : Int) < (next.length : Int) := by omega
  have hmc := made_get (.int .i64 0) hst
  go_enter Try.func75, Try.ntmps75
  go_wp2
  go_loopw [5, 23] (fun cv i wr => ∃ (k g : Nat) (cs : List Int), k ≤ L ∧ i = .int .i64 k ∧ cv = .slice (some ⟨g, 0, none⟩) next.length next.length ∧ w.heap.size < g ∧ Hid (cs.length = next.length ∧ Ints wr g 2 cs ∧ cntIter next next.length L ((List.replicate next.length 0).set st 1) = cntIter next next.length (L - k) cs) ∧
      wr.cell? ⟨w.heap.size, 2, none⟩ = some (.slice A1 accept.length c1) ∧ wr.cell? ⟨w.heap.size, 3, none⟩ = some (.slice A2 next.length c2) ∧ w.heap.size < wr.heap.size ∧ Since w wr) (fun _ i _ => L - (intOf i).toNat)
  case atStart =>
    refine ⟨0, w.heap.size + 1, (List.replicate next.length 0).set st 1, Nat.zero_le _, rfl, rfl, by omega, Lib.hid ⟨by rw [List.length_set, List.length_replicate], by have := Ints.made_set (w.alloc (.cells #[.int .i64 letters, .int .i64 st, .slice A1 accept.length c1, .slice A2 next.length c2] 54)) 2 next.length st 1; simpa using this, rfl⟩, by go_simp, by go_simp, (by first | omega | (simp only [sz_alloc, sz_set, sz_drew, sz_drewN]; omega) | (simp only [sz_alloc, sz_set, sz_drew, sz_drewN] at *; omega)), ⟨(by repeat (first | exact Below.refl _ _ | refine Below.alloc ?_ (by first | omega | (simp only [sz_alloc, sz_set, sz_drew, sz_drewN]; omega) | (simp only [sz_alloc, sz_set, sz_drew, sz_drewN] at *; omega)) _ | refine Below.setCell ?_ (by first | omega | (simp only [sz_alloc, sz_set, sz_drew, sz_drewN]; omega) | (simp only [sz_alloc, sz_set, sz_drew, sz_drewN] at *; omega)) _ | refine Below.drew ?_ | refine below_drewN_ ?_ _))⟩⟩
  case round =>
    obtain ⟨k, g, cs, hk, rfl, rfl, hg, H, b2, b3, hz, hs⟩ := hrel
    obtain ⟨wo, rfl⟩ : ∃ wo, wo = wr := ⟨_, rfl⟩
    by_cases hlt : k < L
    · have hgo : g < wo.heap.size := H.out.2.1.lt
      go_wp2
      go_loopw [32] (fun i wi => ∃ (s : Nat) (cur : List Int), s ≤ next.length ∧ i = .int .i64 s ∧ Hid (cur.length = next.length ∧ Ints wi wo.heap.size 2 cur ∧ cntRows cs next (List.replicate next.length 0) = cntRows (cs.drop s) (next.drop s) cur) ∧ Since wo wi) (fun i _ => next.length - (intOf i).toNat)
      case atStart => exact ⟨0, _, Nat.zero_le _, rfl, Lib.hid ⟨by simp, Ints.made wo _ _, rfl⟩, ⟨(by repeat (first | exact Below.refl _ _ | refine Below.alloc ?_ (by first | omega | (simp only [sz_alloc, sz_set, sz_drew, sz_drewN]; omega) | (simp only [sz_alloc, sz_set, sz_drew, sz_drewN] at *; omega)) _ | refine Below.setCell ?_ (by first | omega | (simp only [sz_alloc, sz_set, sz_drew, sz_drewN]; omega) | (simp only [sz_alloc, sz_set, sz_drew, sz_drewN] at *; omega)) _ | refine Below.drew ?_ | refine below_drewN_ ?_ _))⟩⟩
      case round =>
        obtain ⟨s, cur, hsn, rfl, H2, hs2⟩ := hrel
        obtain ⟨wi, rfl⟩ : ∃ wi, wi = wr := ⟨_, rfl⟩
        have e2 := (hs2.out.cell (p := ⟨w.heap.size, 2, none⟩) hz).trans b2
        have e3 := (hs2.out.cell (p := ⟨w.heap.size, 3, none⟩) hz).trans b3
        by_cases hlt2 : s < next.length
        · obtain ⟨x, hx⟩ := get_some hlt2
          obtain ⟨c, hc⟩ := get_some (xs := cs) (k := s) (by rw [H.out.1]; exact hlt2)
          obtain ⟨b', o, P, p, rfl, hbb, cx0, hxl, rx⟩ := (r2.up hs.out).row hx
          have cx := (hs2.out.cell (p := ⟨b', o + s, none⟩) hbb).trans cx0
          clear cx0
          have HX : Hid (∀ y ∈ x, 0 ≤ y ∧ y < (next.length : Int)) := by
            have := (HR.out x (List.mem_of_getElem? hx)).2
            rw [← HS.out] at this
            exact Lib.hid this
          have HR2 := Lib.hid (cntRows_cons (l := cur) hc hx)
          have HC := Lib.hid hc
          have i2 : (0 : Int) ≤ (s : Int) := by omega
          have i3 : (s : Int) < (next.length : Int) := by omega
          clear hx hc
          go_wp2
          go_loopw [39] (fun i wj => ∃ (j : Nat) (cu : List Int), j ≤ x.length ∧ i = .int .i64 j ∧ Hid (cu.length = next.length ∧ Ints wj wo.heap.size 2 cu ∧ cntRow c cur x = cntRow c cu (x.drop j)) ∧ Since wo wj) (fun i _ => x.length - (intOf i).toNat)
          case atStart => exact ⟨0, cur, Nat.zero_le _, rfl, Lib.hid ⟨H2.out.1, H2.out.2.1, rfl⟩, hs2⟩
          case round =>
            obtain ⟨j, cu, hj, rfl, H3, hs3⟩ := hrel
            by_cases hlt3 : j < x.length
            · obtain ⟨y, hy⟩ := get_some hlt3
              obtain ⟨y0, y1⟩ := HX.out y (List.mem_of_getElem? hy)
              obtain ⟨t, rfl⟩ := Int.eq_ofNat_of_zero_le y0
              obtain ⟨b2', o2, rfl, hbb2, cy⟩ := (rx.up hs3.out).int hy
              obtain ⟨z, hz3⟩ := get_some (xs := cu) (k := t) (by rw [H3.out.1]; omega)
              have ct := H3.out.2.1.cell hz3
              have cs' := (H.out.2.1.below hs3.out hgo).cell HC.out
              have ft := H3.out.2.1.free (k := t)
              have HR3 : Hid (cntRow c cu (x.drop j) = cntRow c (cu.set t (wadd z c)) (x.drop (j + 1))) := Lib.hid (by rw [cntRow_cons hy]; unfold addAt; simp [hz3])
              clear hy hz3
              go_wp2
              go_still_tail 10, (by kernel_rfl)
              go_wp2
              go_roundw
              case rel => exact ⟨j + 1, cu.set t (wadd z c), by omega, by go_num, Lib.hid ⟨by rw [List.length_set]; exact H3.out.1, (H3.out.2.1.set _).drew, by rw [H3.out.2.2, HR3.out]⟩, ⟨(by repeat (first | exact Below.refl _ _ | exact Since.out (by assumption) | refine Below.alloc ?_ (by first | omega | (simp only [sz_alloc, sz_set, sz_drew, sz_drewN]; omega) | (simp only [sz_alloc, sz_set, sz_drew, sz_drewN] at *; omega)) _ | refine Below.setCell ?_ (by first | omega | (simp only [sz_alloc, sz_set, sz_drew, sz_drewN]; omega) | (simp only [sz_alloc, sz_set, sz_drew, sz_drewN] at *; omega)) _ | refine Below.drew ?_ | refine below_drewN_ ?_ _))⟩⟩
              case measure => simp [intOf]; omega
            · obtain rfl : j = x.length := by omega
              go_wp2
              go_roundw
              case rel => exact ⟨s + 1, cu, by omega, by go_num, Lib.hid ⟨H3.out.1, H3.out.2.1, by rw [H2.out.2.2, HR2.out, H3.out.2.2, List.drop_length]; rfl⟩, hs3⟩
              case measure => simp [intOf]; omega
        · obtain rfl : s = next.length := by omega
          go_wp2
          go_roundw
          case rel =>
            refine ⟨k + 1, wo.heap.size, cur, by omega, by go_num, rfl, by omega, Lib.hid ⟨H2.out.1, H2.out.2.1, ?_⟩, e2, e3, Nat.lt_of_lt_of_le hz hs2.out.size, ⟨below_cat hs.out hs2.out hs.out.size⟩⟩
            rw [H.out.2.2, show L - k = (L - (k + 1)) + 1 by omega, cntIter, H2.out.2.2, cntRows_end (Nat.le_refl _)]
          case measure => simp [intOf]; omega
    · obtain rfl : k = L := by omega
      have HE : Hid (countC next.length accept next st k = cntSum accept cs 0) := Lib.hid (by unfold countC; rw [Int.toNat_natCast, H.out.2.2, Nat.sub_self]; rfl)
      have hca : Hid (cs.length = accept.length) := Lib.hid (by rw [H.out.1, HS.out])
      go_wp2
      go_loopw [11, 60] (fun sv i wi => ∃ (s : Nat) (z : Int), s ≤ accept.length ∧ i = .int .i64 s ∧ sv = .int .i64 z ∧ Hid (cntSum accept cs 0 = cntSum (accept.drop s) (cs.drop s) z) ∧ wi = wo) (fun _ i _ => accept.length - (intOf i).toNat)
      case atStart => exact ⟨0, 0, Nat.zero_le _, rfl, rfl, Lib.hid rfl, rfl⟩
      case round =>
        obtain ⟨s, z, hsn, rfl, rfl, H2, rfl⟩ := hrel
        by_cases hlt2 : s < accept.length
        · obtain ⟨bt, hb⟩ := get_some hlt2
          obtain ⟨c, hc⟩ := get_some (xs := cs) (k := s) (by rw [hca.out]; exact hlt2)
          obtain ⟨b', o, rfl, hbb, cb⟩ := (r1.up hs.out).bool hb
          have ct := H.out.2.1.cell hc
          have i2 : (0 : Int) ≤ (s : Int) := by omega
          have i3 : (s : Int) < (accept.length : Int) := by omega
          have i4 : (s : Int) < (next.length : Int) := by have := HS.out; omega
          have HR2 := Lib.hid (cntSum_cons (z := z) hb hc)
          clear hb hc
          cases bt with
          | true =>
            go_wp2
            go_roundw
            case rel => exact ⟨s + 1, wadd z c, by omega, by go_num, rfl, Lib.hid (by rw [H2.out, HR2.out]; rfl), trivial⟩
            case measure => simp [intOf]; omega
          | false =>
            go_wp2
            go_roundw
            case rel => exact ⟨s + 1, z, by omega, by go_num, rfl, Lib.hid (by rw [H2.out, HR2.out]; rfl), trivial⟩
            case measure => simp [intOf]; omega
        · obtain rfl : s = accept.length := by omega
          go_wp2
          go_ret
          exact ⟨ret_int (by rw [HE.out, H2.out, cntSum_end (Nat.le_refl _)]), hs.out⟩

theorem countTaken_impl (v : Value) (T : Rr) (L : Int) (w : World) (h1 : RdRr w w.heap.size v T) (hn : T.tot ≤ 1048576) :
    Calls Try.prog 28 #[v, .int .i64 L] w fun e w' => e = .returned (.tuple #[.int .i64 (countV T L), .int .i64 (countE T L)]) ∧ Below w.heap.size w w' := by
  have h1' := h1
  obtain ⟨A1, c1, A2, c2, rfl, r1, r2⟩ := h1
  by_cases hok : T.okB = true
  · have HO := Lib.hid hok
    by_cases hL : inB L 0 30 = true
    · obtain ⟨La, Lb⟩ := inB_iff.1 hL
      obtain ⟨l, rfl⟩ := Int.eq_ofNat_of_zero_le La
      have HV : Hid (countV T l = countC T.next.length T.accept T.next T.start l ∧ countE T l = 0) := Lib.hid (by unfold countV countE; rw [hok, hL]; simp)
      rw [HV.out.1, HV.out.2]
      have HL := Lib.hid hL
      clear hok hL La
      go_enter Try.func28, Try.ntmps28
      go_wp2_with fail
      refine (validReader_impl _ T _ ⟨A1, c1, A2, c2, rfl, r1.up (by repeat (first | exact Below.refl _ _ | refine Below.alloc ?_ (by first | omega | (simp only [sz_alloc, sz_set, sz_drew, sz_drewN]; omega) | (simp only [sz_alloc, sz_set, sz_drew, sz_drewN] at *; omega)) _ | refine Below.setCell ?_ (by first | omega | (simp only [sz_alloc, sz_set, sz_drew, sz_drewN]; omega) | (simp only [sz_alloc, sz_set, sz_drew, sz_drewN] at *; omega)) _ | refine Below.drew ?_ | refine below_drewN_ ?_ _)), r2.up (by repeat (first | exact Below.refl _ _ | refine Below.alloc ?_ (by first | omega | (simp only [sz_alloc, sz_set, sz_drew, sz_drewN]; omega) | (simp only [sz_alloc, sz_set, sz_drew, sz_drewN] at *; omega)) _ | refine Below.setCell ?_ (by first | omega | (simp only [sz_alloc, sz_set, sz_drew, sz_drewN]; omega) | (simp only [sz_alloc, sz_set, sz_drew, sz_drewN] at *; omega)) _ | refine Below.drew ?_ | refine below_drewN_ ?_ _))⟩ hn).mono ?_
      rintro e w1 ⟨rfl, hb1⟩
      rw [HO.out]
      have HBw1 : Since w w1 := ⟨below_cat (by repeat (first | exact Below.refl _ _ | exact Since.out (by assumption) | refine Below.alloc ?_ (by first | omega | (simp only [sz_alloc, sz_set, sz_drew, sz_drewN]; omega) | (simp only [sz_alloc, sz_set, sz_drew, sz_drewN] at *; omega)) _ | refine Below.setCell ?_ (by first | omega | (simp only [sz_alloc, sz_set, sz_drew, sz_drewN]; omega) | (simp only [sz_alloc, sz_set, sz_drew, sz_drewN] at *; omega)) _ | refine Below.drew ?_ | refine below_drewN_ ?_ _)) hb1 (by first | omega | (simp only [sz_alloc, sz_set, sz_drew, sz_drewN]; omega) | (simp only [sz_alloc, sz_set, sz_drew, sz_drewN] at *; omega))⟩; have hzw1 := hb1.size; (try simp only [sz_alloc, sz_set, sz_drew, sz_drewN] at hzw1); have hcw1k0 := fun o => hb1.cell (p := ⟨w.heap.size, o, none⟩) (by first | omega | (simp only [sz_alloc, sz_set, sz_drew, sz_drewN]; omega) | (simp only [sz_alloc, sz_set, sz_drew, sz_drewN] at *; omega)); have hfw1k0 := fun o => hb1.frozen (p := ⟨w.heap.size, o, none⟩) (by first | omega | (simp only [sz_alloc, sz_set, sz_drew, sz_drewN]; omega) | (simp only [sz_alloc, sz_set, sz_drew, sz_drewN] at *; omega)); have hlw1k0 : w.heap.size < w1.heap.size := (by first | omega | (simp only [sz_alloc, sz_set, sz_drew, sz_drewN]; omega) | (simp only [sz_alloc, sz_set, sz_drew, sz_drewN] at *; omega))
      go_wp2_with fail
      refine (within_lit true _ _ _ _ HL.out).mono ?_
      rintro e w2 ⟨rfl, rfl⟩
      go_wp2_with fail
      refine (countTaken _ T l _ ⟨A1, c1, A2, c2, rfl, r1.up (by repeat (first | exact Below.refl _ _ | exact Since.out (by assumption) | refine Below.alloc ?_ (by first | omega | (simp only [sz_alloc, sz_set, sz_drew, sz_drewN]; omega) | (simp only [sz_alloc, sz_set, sz_drew, sz_drewN] at *; omega)) _ | refine Below.setCell ?_ (by first | omega | (simp only [sz_alloc, sz_set, sz_drew, sz_drewN]; omega) | (simp only [sz_alloc, sz_set, sz_drew, sz_drewN] at *; omega)) _ | refine Below.drew ?_ | refine below_drewN_ ?_ _)), r2.up (by repeat (first | exact Below.refl _ _ | exact Since.out (by assumption) | refine Below.alloc ?_ (by first | omega | (simp only [sz_alloc, sz_set, sz_drew, sz_drewN]; omega) | (simp only [sz_alloc, sz_set, sz_drew, sz_drewN] at *; omega)) _ | refine Below.setCell ?_ (by first | omega | (simp only [sz_alloc, sz_set, sz_drew, sz_drewN]; omega) | (simp only [sz_alloc, sz_set, sz_drew, sz_drewN] at *; omega)) _ | refine Below.drew ?_ | refine below_drewN_ ?_ _))⟩ HO.out (by omega)).mono ?_
      rintro e w3 ⟨rfl, hb3⟩
      have HBw3 : Since w w3 := ⟨below_cat (by repeat (first | exact Below.refl _ _ | exact Since.out (by assumption) | refine Below.alloc ?_ (by first | omega | (simp only [sz_alloc, sz_set, sz_drew, sz_drewN]; omega) | (simp only [sz_alloc, sz_set, sz_drew, sz_drewN] at *; omega)) _ | refine Below.setCell ?_ (by first | omega | (simp only [sz_alloc, sz_set, sz_drew, sz_drewN]; omega) | (simp only [sz_alloc, sz_set, sz_drew, sz_drewN] at *; omega)) _ | refine Below.drew ?_ | refine below_drewN_ ?_ _)) hb3 (by first | omega | (simp only [sz_alloc, sz_set, sz_drew, sz_drewN]; omega) | (simp only [sz_alloc, sz_set, sz_drew, sz_drewN] at *; omega))⟩; have hzw3 := hb3.size; (try simp only [sz_alloc, sz_set, sz_drew, sz_drewN] at hzw3); have hcw3k0 := fun o => hb3.cell (p := ⟨w.heap.size, o, none⟩) (by first | omega | (simp only [sz_alloc, sz_set, sz_drew, sz_drewN]; omega) | (simp only [sz_alloc, sz_set, sz_drew, sz_drewN] at *; omega)); have hfw3k0 := fun o => hb3.frozen (p := ⟨w.heap.size, o, none⟩) (by first | omega | (simp only [sz_alloc, sz_set, sz_drew, sz_drewN]; omega) | (simp only [sz_alloc, sz_set, sz_drew, sz_drewN] at *; omega)); have hlw3k0 : w.heap.size < w3.heap.size := (by first | omega | (simp only [sz_alloc, sz_set, sz_drew, sz_drewN]; omega) | (simp only [sz_alloc, sz_set, sz_drew, sz_drewN] at *; omega))
      go_wp2
      go_ret2
      exact ⟨rfl, HBw3.out⟩
    · have hL := Bool.not_eq_true _ |>.mp hL
      have HV : Hid (countV T L = 0 ∧ countE T L = 2) := Lib.hid (by unfold countV countE; rw [hok, hL]; simp)
      rw [HV.out.1, HV.out.2]
      have HL := Lib.hid hL
      clear hok hL
      go_enter Try.func28, Try.ntmps28
      go_wp2_with fail
      refine (validReader_impl _ T _ ⟨A1, c1, A2, c2, rfl, r1.up (by repeat (first | exact Below.refl _ _ | refine Below.alloc ?_ (by first | omega | (simp only [sz_alloc, sz_set, sz_drew, sz_drewN]; omega) | (simp only [sz_alloc, sz_set, sz_drew, sz_drewN] at *; omega)) _ | refine Below.setCell ?_ (by first | omega | (simp only [sz_alloc, sz_set, sz_drew, sz_drewN]; omega) | (simp only [sz_alloc, sz_set, sz_drew, sz_drewN] at *; omega)) _ | refine Below.drew ?_ | refine below_drewN_ ?_ _)), r2.up (by repeat (first | exact Below.refl _ _ | refine Below.alloc ?_ (by first | omega | (simp only [sz_alloc, sz_set, sz_drew, sz_drewN]; omega) | (simp only [sz_alloc, sz_set, sz_drew, sz_drewN] at *; omega)) _ | refine Below.setCell ?_ (by first | omega | (simp only [sz_alloc, sz_set, sz_drew, sz_drewN]; omega) | (simp only [sz_alloc, sz_set, sz_drew, sz_drewN] at *; omega)) _ | refine Below.drew ?_ | refine below_drewN_ ?_ _))⟩ hn).mono ?_
      rintro e w1 ⟨rfl, hb1⟩
      rw [HO.out]
      have HBw1 : Since w w1 := ⟨below_cat (by repeat (first | exact Below.refl _ _ | exact Since.out (by assumption) | refine Below.alloc ?_ (by first | omega | (simp only [sz_alloc, sz_set, sz_drew, sz_drewN]; omega) | (simp only [sz_alloc, sz_set, sz_drew, sz_drewN] at *; omega)) _ | refine Below.setCell ?_ (by first | omega | (simp only [sz_alloc, sz_set, sz_drew, sz_drewN]; omega) | (simp only [sz_alloc, sz_set, sz_drew, sz_drewN] at *; omega)) _ | refine Below.drew ?_ | refine below_drewN_ ?_ _)) hb1 (by first | omega | (simp only [sz_alloc, sz_set, sz_drew, sz_drewN]; omega) | (simp only [sz_alloc, sz_set, sz_drew, sz_drewN] at *; omega))⟩; have hzw1 := hb1.size; (try simp only [sz_alloc, sz_set, sz_drew, sz_drewN] at hzw1); have hcw1k0 := fun o => hb1.cell (p := ⟨w.heap.size, o, none⟩) (by first | omega | (simp only [sz_alloc, sz_set, sz_drew, sz_drewN]; omega) | (simp only [sz_alloc, sz_set, sz_drew, sz_drewN] at *; omega)); have hfw1k0 := fun o => hb1.frozen (p := ⟨w.heap.size, o, none⟩) (by first | omega | (simp only [sz_alloc, sz_set, sz_drew, sz_drewN]; omega) | (simp only [sz_alloc, sz_set, sz_drew, sz_drewN] at *; omega)); have hlw1k0 : w.heap.size < w1.heap.size := (by first | omega | (simp only [sz_alloc, sz_set, sz_drew, sz_drewN]; omega) | (simp only [sz_alloc, sz_set, sz_drew, sz_drewN] at *; omega))
      go_wp2_with fail
      refine (within_lit false _ _ _ _ HL.out).mono ?_
      rintro e w2 ⟨rfl, rfl⟩
      go_wp2
      go_ret2
      exact ⟨rfl, HBw1.out⟩
  · have hok := Bool.not_eq_true _ |>.mp hok
    have HO := Lib.hid hok
    have HV : Hid (countV T L = 0 ∧ countE T L = 1) := Lib.hid (by unfold countV countE; rw [hok]; simp)
    rw [HV.out.1, HV.out.2]
    clear hok
    go_enter Try.func28, Try.ntmps28
    go_wp2_with fail
    refine (validReader_impl _ T _ ⟨A1, c1, A2, c2, rfl, r1.up (by repeat (first | exact Below.refl _ _ | refine Below.alloc ?_ (by first | omega | (simp only [sz_alloc, sz_set, sz_drew, sz_drewN]; omega) | (simp only [sz_alloc, sz_set, sz_drew, sz_drewN] at *; omega)) _ | refine Below.setCell ?_ (by first | omega | (simp only [sz_alloc, sz_set, sz_drew, sz_drewN]; omega) | (simp only [sz_alloc, sz_set, sz_drew, sz_drewN] at *; omega)) _ | refine Below.drew ?_ | refine below_drewN_ ?_ _)), r2.up (by repeat (first | exact Below.refl _ _ | refine Below.alloc ?_ (by first | omega | (simp only [sz_alloc, sz_set, sz_drew, sz_drewN]; omega) | (simp only [sz_alloc, sz_set, sz_drew, sz_drewN] at *; omega)) _ | refine Below.setCell ?_ (by first | omega | (simp only [sz_alloc, sz_set, sz_drew, sz_drewN]; omega) | (simp only [sz_alloc, sz_set, sz_drew, sz_drewN] at *; omega)) _ | refine Below.drew ?_ | refine below_drewN_ ?_ _))⟩ hn).mono ?_
    rintro e w1 ⟨rfl, hb1⟩
    rw [HO.out]
    have HBw1 : Since w w1 := ⟨below_cat (by repeat (first | exact Below.refl _ _ | exact Since.out (by assumption) | refine Below.alloc ?_ (by first | omega | (simp only [sz_alloc, sz_set, sz_drew, sz_drewN]; omega) | (simp only [sz_alloc, sz_set, sz_drew, sz_drewN] at *; omega)) _ | refine Below.setCell ?_ (by first | omega | (simp only [sz_alloc, sz_set, sz_drew, sz_drewN]; omega) | (simp only [sz_alloc, sz_set, sz_drew, sz_drewN] at *; omega)) _ | refine Below.drew ?_ | refine below_drewN_ ?_ _)) hb1 (by first | omega | (simp only [sz_alloc, sz_set, sz_drew, sz_drewN]; omega) | (simp only [sz_alloc, sz_set, sz_drew, sz_drewN] at *; omega))⟩; have hzw1 := hb1.size; (try simp only [sz_alloc, sz_set, sz_drew, sz_drewN] at hzw1); have hcw1k0 := fun o => hb1.cell (p := ⟨w.heap.size, o, none⟩) (by first | omega | (simp only [sz_alloc, sz_set, sz_drew, sz_drewN]; omega) | (simp only [sz_alloc, sz_set, sz_drew, sz_drewN] at *; omega)); have hfw1k0 := fun o => hb1.frozen (p := ⟨w.heap.size, o, none⟩) (by first | omega | (simp only [sz_alloc, sz_set, sz_drew, sz_drewN]; omega) | (simp only [sz_alloc, sz_set, sz_drew, sz_drewN] at *; omega)); have hlw1k0 : w.heap.size < w1.heap.size := (by first | omega | (simp only [sz_alloc, sz_set, sz_drew, sz_drewN]; omega) | (simp only [sz_alloc, sz_set, sz_drew, sz_drewN] at *; omega))
    go_wp2
    go_ret2
    exact ⟨rfl, HBw1.out⟩
end Go.Proofs.Ytollaaebheeakaa
