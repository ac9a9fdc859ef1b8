/-
  Contracts of ownLists and l04Raised. Conditions: those in each statement.
-/
import Derived.Test.YtpknkaidmefenaaEitS
set_option linter.unusedVariables false
set_option linter.unusedSimpArgs false
set_option maxRecDepth 100000
set_option maxHeartbeats 1000000
namespace Go.Proofs.Ytpknkaidmefenaa
open Go.RowKit

theorem OwnS.push {α : Type} [Cod α] {w : World} {A : Option Addr} {xs : List α} {bs : List Nat} {B : Nat} (h : OwnS w A xs bs) (f : Fresh B w bs) (o : Obj) : OwnS (w.alloc o) A xs bs :=
  h.below ((Below.refl _ _).alloc (Nat.le_refl _) o) fun g hg => (f.2 g hg).2

theorem Acc.low {α : Type} [Cod α] {w : World} {B B' : Nat} {e : TypeId} {A : Option Addr} {n c : Nat} {xs : List α} {bs : List Nat} (h : Acc w B e A n c xs bs) (hB : B' ≤ B) : Acc w B' e A n c xs bs := by
  obtain ⟨cs, ⟨o1, o2⟩, he⟩ := h.cells
  refine ⟨h.len, ⟨cs, ⟨o1, ?_⟩, he⟩, ⟨h.fresh.1, fun g hg => ⟨Nat.le_trans hB (h.fresh.2 g hg).1, (h.fresh.2 g hg).2⟩⟩, h.out⟩
  rcases o2 with o2 | ⟨g, cap, cur, hv, hb, r⟩
  · exact .inl o2
  · exact .inr ⟨g, cap, cur, hv, Nat.le_trans hB hb, r⟩
theorem Els.rows_one {α : Type} [Cod α] {w : World} : ∀ {xs : List (List α)} {cs : List Value} {bs : List Nat}, Els w xs cs bs → ∀ u ∈ cs, u.oneCell' = true
  | [], _, _, ⟨rfl, _⟩, u, hu => by simp at hu
  | _ :: _, _, _, ⟨c1, c2, _, _, rfl, _, ⟨A, c, hc, _⟩, h2⟩, u, hu => by
    rw [hc] at hu
    rcases List.mem_append.1 hu with h | h
    · simp at h; subst h; rfl
    · exact Els.rows_one h2 u h
theorem Acc.src {α : Type} [Cod α] {w : World} {B : Nat} {e : TypeId} {A : Option Addr} {n c : Nat} {xs : List (List α)} {bs : List Nat} (h : Acc w B e A n c xs bs) (h0 : 0 < n) :
    ∃ G cs, A = some ⟨G, 0, none⟩ ∧ Els w xs cs bs ∧ (∀ j u, cs[j]? = some u → w.cell? ((⟨G, 0, none⟩ : Addr).add j) = some u) ∧ (∀ u ∈ cs, u.oneCell' = true) := by
  obtain ⟨cs, ⟨o1, o2⟩, he⟩ := h.cells
  rcases o2 with ⟨hv, hz⟩ | ⟨G, cap, cur, hv, hB, hg, hnc, hcm, hcur, htake⟩
  · omega
  · refine ⟨G, cs, by injection hv, he, fun j u hu => ?_, he.rows_one⟩
    rw [show (⟨G, 0, none⟩ : Addr).add j = ⟨G, j, none⟩ by unfold Addr.add; split <;> simp_all]
    rw [cell_of_row w G j cur e (0, 0) hg]
    rw [← htake] at hu
    have hl := (List.getElem?_eq_some_iff.1 hu).1
    rw [List.length_take] at hl
    rw [List.getElem?_take_of_lt (by omega)] at hu
    simpa using hu
theorem grown_since {w0 w w' : World} {A : Option Addr} {C : Nat} (hs : Below C w0 w) (hgr : w.grownBy w' (A.map (·.block))) (hz : C ≤ w.heap.size) (hA : ∀ a, A = some a → C ≤ a.block) : Below C w0 w' :=
  Below.grown hs hgr hz fun g hg => by
    cases hD : A with
    | none => rw [hD] at hg; simp at hg
    | some a => rw [hD] at hg; simp at hg; have := hA a hD; omega

set_option maxHeartbeats 4000000 in
theorem ownLists (A : Option Addr) (xs : List (List (Int × Int))) (c : Nat) (w : World) (r : RdS w w.heap.size A xs) (hl : xs.length ≤ 1000) (hx : ∀ x ∈ xs, x.length ≤ 1000) :
    Calls Try.prog 39 #[.slice A xs.length c] w fun en w' => ∃ A' c' bs, en = .returned (.slice A' xs.length c') ∧ Acc w' w.heap.size 75 A' xs.length c' xs bs ∧ Below w.heap.size w w' := by
  have HX := Lib.hid hx
  clear hx
  go_enter Try.func39, Try.ntmps39
  go_wp2
  go_loopw [3, 9] (fun l i wr => ∃ (k : Nat) (A' : Option Addr) (c' : Nat) (bs' : List Nat), k ≤ xs.length ∧ i = .int .i64 k ∧ l = .slice A' k c' ∧ Hid (Acc wr w.heap.size 75 A' k c' (xs.take k) bs') ∧ Since w wr) (fun _ i _ => xs.length - (intOf i).toNat)
  case atStart => exact ⟨0, _, _, [], Nat.zero_le _, rfl, rfl, Lib.hid (Acc.empty_ (new_block rfl) (Nat.le_refl _)), ⟨(by repeat (first | exact Below.refl _ _ | refine Below.alloc ?_ (by first | omega | (simp only [sz_alloc, sz_set, sz_drew, sz_drewN]; omega) | (simp only [sz_alloc, sz_set, sz_drew, sz_drewN] at *; omega)) _ | refine Below.setCell ?_ (by first | omega | (simp only [sz_alloc, sz_set, sz_drew, sz_drewN]; omega) | (simp only [sz_alloc, sz_set, sz_drew, sz_drewN] at *; omega)) _ | refine Below.drew ?_ | refine below_drewN_ ?_ _))⟩⟩
  case round =>
    obtain ⟨k, A', c', bs', hk, rfl, rfl, H, hs⟩ := hrel
    obtain ⟨wo, rfl⟩ : ∃ wo, wo = wr := ⟨_, rfl⟩
    by_cases hlt : k < xs.length
    · obtain ⟨x, hx⟩ := get_some hlt
      obtain ⟨b', o, P, p, rfl, hbb, cx, hxl, rx⟩ := (r.up hs.out).row hx
      have hx5 : x.length ≤ 1000 := HX.out x (List.mem_of_getElem? hx)
      have HT : Hid (xs.take (k + 1) = xs.take k ++ [x]) := Lib.hid (take_snoc hx)
      have i2 : (0 : Int) ≤ (k : Int) := by omega
      have i3 : (k : Int) < (xs.length : Int) := by omega
      clear hx
      go_wp2_with fail
      refine (cloneMoves P x p wo rx (by omega)).mono ?_
      rintro e w1 ⟨A1, c1, rfl, hacc1, hb1⟩
      obtain ⟨b1, o1, f1, _⟩ := hacc1.own
      clear hacc1
      have HO := Lib.hid (And.intro o1 f1)
      have HB1 : Since wo w1 := ⟨hb1⟩
      have hz1 := hb1.size
      have hzo := hs.out.size
      clear o1 f1
      go_wp2_with (
        at_builtin
        refine wpList_push (α := List (Int × Int)) _ rfl (.tmp 13) (.tmp 16) 70 rfl w.heap.size 75 (.slice none 0 0) 24 Try.underlying70 infoMoveSS rfl A' k c' _ bs' rfl (H.out.below (C := wo.heap.size) (by repeat (first | exact Below.refl _ _ | exact Since.out (by assumption) | refine Below.alloc ?_ (by first | omega | (simp only [sz_alloc, sz_set, sz_drew, sz_drewN]; omega) | (simp only [sz_alloc, sz_set, sz_drew, sz_drewN] at *; omega)) _ | refine Below.setCell ?_ (by first | omega | (simp only [sz_alloc, sz_set, sz_drew, sz_drewN]; omega) | (simp only [sz_alloc, sz_set, sz_drew, sz_drewN] at *; omega)) _ | refine Below.drew ?_ | refine below_drewN_ ?_ _)) (Nat.le_refl _)) w1.heap.size 1 rfl x [.slice A1 x.length c1] b1 ⟨A1, c1, rfl, by omega, HO.out.1.push HO.out.2 _⟩ (new_cells (by first | rfl | simp [sz_set])) (fun u hu => by (simp at hu; subst hu; rfl)) ⟨HO.out.2.1, fun g hg => ⟨by have := (HO.out.2.2 g hg).1; have := hs.out.size; omega, by have := (HO.out.2.2 g hg).2; simp; omega⟩⟩ (H.out.apart HO.out.2 (Nat.le_refl _)) (by omega) (by omega) (by first | omega | (simp only [sz_alloc, sz_set, sz_drew, sz_drewN]; omega) | (simp only [sz_alloc, sz_set, sz_drew, sz_drewN] at *; omega)) ?_
        intro D1 d1 w2 hacc hgr hnew
        have HS2 : Since w w2 := ⟨Acc.since (H.out.below (C := wo.heap.size) (by repeat (first | exact Below.refl _ _ | exact Since.out (by assumption) | refine Below.alloc ?_ (by first | omega | (simp only [sz_alloc, sz_set, sz_drew, sz_drewN]; omega) | (simp only [sz_alloc, sz_set, sz_drew, sz_drewN] at *; omega)) _ | refine Below.setCell ?_ (by first | omega | (simp only [sz_alloc, sz_set, sz_drew, sz_drewN]; omega) | (simp only [sz_alloc, sz_set, sz_drew, sz_drewN] at *; omega)) _ | refine Below.drew ?_ | refine below_drewN_ ?_ _)) (Nat.le_refl _)) hgr (below_cat hs.out (by repeat (first | exact Below.refl _ _ | exact Since.out (by assumption) | refine Below.alloc ?_ (by first | omega | (simp only [sz_alloc, sz_set, sz_drew, sz_drewN]; omega) | (simp only [sz_alloc, sz_set, sz_drew, sz_drewN] at *; omega)) _ | refine Below.setCell ?_ (by first | omega | (simp only [sz_alloc, sz_set, sz_drew, sz_drewN]; omega) | (simp only [sz_alloc, sz_set, sz_drew, sz_drewN] at *; omega)) _ | refine Below.drew ?_ | refine below_drewN_ ?_ _)) hzo) (Nat.le_refl _) (by first | omega | (simp only [sz_alloc, sz_set, sz_drew, sz_drewN]; omega) | (simp only [sz_alloc, sz_set, sz_drew, sz_drewN] at *; omega))⟩
        have HA := Lib.hid hacc
        clear hacc hgr hnew)
      go_roundw
      case rel => exact ⟨k + 1, D1, d1, _, by omega, by go_num, rfl, Lib.hid (by rw [HT.out]; exact HA.out), HS2⟩
      case measure => simp [intOf]; omega
    · obtain rfl : k = xs.length := by omega
      go_wp2
      go_ret
      have hA := H.out
      rw [List.take_length] at hA
      exact ⟨A', c', bs', rfl, hA, hs.out⟩

set_option maxHeartbeats 8000000 in
theorem l04Raised (b n : Nat) (A : Option Addr) (c : Nat) (T : Wn) (w : World) (q2 : w.cell? ⟨b, 2, none⟩ = some (.slice A T.moves.length c)) (hbw : b < w.heap.size) (r : RdS w w.heap.size A T.moves) (OK : T.Ok) (hn : n ≤ 5) :
    Calls Try.prog 34 #[.pointer (some ⟨b, 0, none⟩), .int .i64 n] w fun en w' => ∃ A' c' bs, en = .returned (.slice A' T.moves.length c') ∧ Acc w' w.heap.size 70 A' T.moves.length c' (rsW n T.moves) bs ∧ Below w.heap.size w w' := by
  obtain ⟨letters, starts, moves⟩ := T
  obtain ⟨l1, l3, n1, n5, _, _, hrow, hcell⟩ := OK
  simp only at *
  have HR := Lib.hid hrow
  have HC := Lib.hid hcell
  have Q2 := Lib.hid q2
  clear hrow hcell
  go_enter Try.func34, Try.ntmps34
  go_wp2
  clear q2
  go_loopw [5, 6] (fun l i wr => ∃ (k : Nat) (A1 : Option Addr) (c1 : Nat) (bs : List Nat), k ≤ moves.length ∧ i = .int .i64 k ∧ l = .slice A1 k c1 ∧ Hid (Acc wr w.heap.size 70 A1 k c1 (rsW n (moves.take k)) bs) ∧ Since w wr) (fun _ i _ => moves.length - (intOf i).toNat)
  case atStart => exact ⟨0, _, _, [], Nat.zero_le _, rfl, rfl, Lib.hid (Acc.empty_ (new_block rfl) (Nat.le_refl _)), ⟨(by repeat (first | exact Below.refl _ _ | refine Below.alloc ?_ (by first | omega | (simp only [sz_alloc, sz_set, sz_drew, sz_drewN]; omega) | (simp only [sz_alloc, sz_set, sz_drew, sz_drewN] at *; omega)) _ | refine Below.setCell ?_ (by first | omega | (simp only [sz_alloc, sz_set, sz_drew, sz_drewN]; omega) | (simp only [sz_alloc, sz_set, sz_drew, sz_drewN] at *; omega)) _ | refine Below.drew ?_ | refine below_drewN_ ?_ _))⟩⟩
  case round =>
    obtain ⟨k, A1, c1, bs, hk, rfl, rfl, H, hs⟩ := hrel
    obtain ⟨wo, rfl⟩ : ∃ wo, wo = wr := ⟨_, rfl⟩
    have hzo := hs.out.size
    have hbo : b < wo.heap.size := by omega
    have to_ : wo.cell? ⟨b, 2, none⟩ = some (.slice A moves.length c) := (hs.out.cell (p := ⟨b, 2, none⟩) hbw).trans Q2.out
    by_cases hlt : k < moves.length
    · obtain ⟨x, hx⟩ := get_some hlt
      obtain ⟨b', o, P, p, rfl, hbb, cx, hxl, rx⟩ := (r.up hs.out).row hx
      have hxm := List.mem_of_getElem? hx
      have hx5 : x.length ≤ 5 := by have := HR.out x hxm; omega
      have HX : Hid (∀ y ∈ x, y.length ≤ 20 ∧ ∀ m ∈ y, -1 ≤ m.1 ∧ m.1 ≤ 4) := Lib.hid (HC.out x hxm)
      have HT : Hid (rsW n (moves.take (k + 1)) = rsW n (moves.take k) ++ [rsR n x]) := Lib.hid (by rw [take_snoc hx]; simp [rsW])
      have i2 : (0 : Int) ≤ (k : Int) := by omega
      have i3 : (k : Int) < (moves.length : Int) := by omega
      clear hx hxm
      go_wp2
      go_loopw [7, 8] (fun l i wi => ∃ (j : Nat) (A2 : Option Addr) (c2 : Nat) (bs2 : List Nat), j ≤ x.length ∧ i = .int .i64 j ∧ l = .slice A2 j c2 ∧ Hid (Acc wi wo.heap.size 75 A2 j c2 (rsR n (x.take j)) bs2) ∧ Since wo wi) (fun _ i _ => x.length - (intOf i).toNat)
      case atStart => exact ⟨0, _, _, [], Nat.zero_le _, rfl, rfl, Lib.hid (Acc.empty_ (new_block rfl) (Nat.le_refl _)), ⟨(by repeat (first | exact Below.refl _ _ | refine Below.alloc ?_ (by first | omega | (simp only [sz_alloc, sz_set, sz_drew, sz_drewN]; omega) | (simp only [sz_alloc, sz_set, sz_drew, sz_drewN] at *; omega)) _ | refine Below.setCell ?_ (by first | omega | (simp only [sz_alloc, sz_set, sz_drew, sz_drewN]; omega) | (simp only [sz_alloc, sz_set, sz_drew, sz_drewN] at *; omega)) _ | refine Below.drew ?_ | refine below_drewN_ ?_ _))⟩⟩
      case round =>
        obtain ⟨j, A2, c2, bs2, hj, rfl, rfl, H2, hs2⟩ := hrel
        obtain ⟨wi, rfl⟩ : ∃ wi, wi = wr := ⟨_, rfl⟩
        have hzi := hs2.out.size
        have hbi : b < wi.heap.size := by omega
        have hbbi : b' < wi.heap.size := by omega
        have ti := (hs2.out.cell (p := ⟨b, 2, none⟩) hbo).trans to_
        have cxi := (hs2.out.cell (p := ⟨b', o + k, none⟩) hbb).trans cx
        by_cases hlt2 : j < x.length
        · obtain ⟨y, hy⟩ := get_some hlt2
          obtain ⟨f, f', Q, q, rfl, hff, cy, hyl, ry⟩ := (rx.up hs2.out).row hy
          have hym := List.mem_of_getElem? hy
          have hy20 : y.length ≤ 20 := (HX.out y hym).1
          have HY : Hid (∀ m ∈ y, -1 ≤ m.1 ∧ m.1 ≤ 4) := Lib.hid (HX.out y hym).2
          have HT2 : Hid (rsR n (x.take (j + 1)) = rsR n (x.take j) ++ [rsL n y]) := Lib.hid (by rw [take_snoc hy]; simp [rsR])
          have j2 : (0 : Int) ≤ (j : Int) := by omega
          have j3 : (j : Int) < (x.length : Int) := by omega
          clear hy hym
          go_wp2
          go_loopw [9, 10] (fun l i wj => ∃ (m : Nat) (A3 : Option Addr) (c3 : Nat) (bs3 : List Nat), m ≤ y.length ∧ i = .int .i64 m ∧ l = .slice A3 m c3 ∧ Hid (Acc wj wi.heap.size 73 A3 m c3 (rsL n (y.take m)) bs3) ∧ Since wi wj) (fun _ i _ => y.length - (intOf i).toNat)
          case atStart => exact ⟨0, _, _, [], Nat.zero_le _, rfl, rfl, Lib.hid (Acc.empty_ (new_block rfl) (Nat.le_refl _)), ⟨(by repeat (first | exact Below.refl _ _ | refine Below.alloc ?_ (by first | omega | (simp only [sz_alloc, sz_set, sz_drew, sz_drewN]; omega) | (simp only [sz_alloc, sz_set, sz_drew, sz_drewN] at *; omega)) _ | refine Below.setCell ?_ (by first | omega | (simp only [sz_alloc, sz_set, sz_drew, sz_drewN]; omega) | (simp only [sz_alloc, sz_set, sz_drew, sz_drewN] at *; omega)) _ | refine Below.drew ?_ | refine below_drewN_ ?_ _))⟩⟩
          case round =>
            obtain ⟨m, A3, c3, bs3, hm0, rfl, rfl, H3, hs3⟩ := hrel
            obtain ⟨wj, rfl⟩ : ∃ wj, wj = wr := ⟨_, rfl⟩
            have hzj := hs3.out.size
            have hbj : b < wj.heap.size := by omega
            have hbbj : b' < wj.heap.size := by omega
            have hffj : f < wj.heap.size := by omega
            have tj := (hs3.out.cell (p := ⟨b, 2, none⟩) hbi).trans ti
            have cxj := (hs3.out.cell (p := ⟨b', o + k, none⟩) hbbi).trans cxi
            have cyj := (hs3.out.cell (p := ⟨f, f' + j, none⟩) hff).trans cy
            by_cases hlt3 : m < y.length
            · obtain ⟨z, hz⟩ := get_some hlt3
              obtain ⟨d, d', rfl, hdd, c5, c6⟩ := (ry.up hs3.out).pair hz
              have hzb := HY.out z (List.mem_of_getElem? hz)
              have HZ : Hid (rsL n (y.take (m + 1)) = rsL n (y.take m) ++ [rsM n z]) := Lib.hid (by rw [take_snoc hz]; simp [rsL])
              have m2 : (0 : Int) ≤ (m : Int) := by omega
              have m3 : (m : Int) < (y.length : Int) := by omega
              clear hz
              by_cases hm : 0 ≤ z.1
              · have HE : Hid (rsM n z = ((z.1 + (n : Int)), z.2)) := Lib.hid (by unfold rsM; rw [if_pos hm])
                have hw : wrap64 (z.1 + (n : Int)) = z.1 + (n : Int) := by unfold wrap64; omega
            
                go_wp2_with (
                  at_builtin
                  refine wpList_push (α := Int × Int) _ rfl (.tmp 72) (.tmp 74) 75 rfl (wi.heap.size) 73 (.agg #[.int .i64 0, .int .i64 0]) 16 Try.underlying75 infoMove rfl A3 m c3 _ bs3 rfl (H3.out.below (C := wj.heap.size) (by repeat (first | exact Below.refl _ _ | refine Below.alloc ?_ (by first | omega | (simp only [sz_alloc, sz_set, sz_drew, sz_drewN]; omega) | (simp only [sz_alloc, sz_set, sz_drew, sz_drewN] at *; omega)) _ | refine Below.setCell ?_ (by first | omega | (simp only [sz_alloc, sz_set, sz_drew, sz_drewN]; omega) | (simp only [sz_alloc, sz_set, sz_drew, sz_drewN] at *; omega)) _ | refine Below.drew ?_ | refine below_drewN_ ?_ _)) (Nat.le_refl _)) (wj.heap.size + 1) 1 rfl ((z.1 + (n : Int)), z.2) [.int .i64 (z.1 + (n : Int)), .int .i64 z.2] [] ⟨rfl, rfl⟩ (new_cells (by first | rfl | simp [sz_set])) (fun u hu => by (simp at hu; first | (subst hu; rfl) | (rcases hu with rfl | rfl <;> rfl))) ⟨List.nodup_nil, fun g hg => by simp at hg⟩ (fun g hg => by simp at hg) (by omega) (by omega) (by first | omega | (simp only [sz_alloc, sz_set, sz_drew, sz_drewN]; omega) | (simp only [sz_alloc, sz_set, sz_drew, sz_drewN] at *; omega)) ?_
                  intro E1 e1 w2 hacc hgr hnew
                  have HS2 : Since wi w2 := ⟨Acc.since (H3.out.below (C := wj.heap.size) (by repeat (first | exact Below.refl _ _ | refine Below.alloc ?_ (by first | omega | (simp only [sz_alloc, sz_set, sz_drew, sz_drewN]; omega) | (simp only [sz_alloc, sz_set, sz_drew, sz_drewN] at *; omega)) _ | refine Below.setCell ?_ (by first | omega | (simp only [sz_alloc, sz_set, sz_drew, sz_drewN]; omega) | (simp only [sz_alloc, sz_set, sz_drew, sz_drewN] at *; omega)) _ | refine Below.drew ?_ | refine below_drewN_ ?_ _)) (Nat.le_refl _)) hgr (by repeat (first | exact Below.refl _ _ | exact Since.out (by assumption) | refine Below.alloc ?_ (by first | omega | (simp only [sz_alloc, sz_set, sz_drew, sz_drewN]; omega) | (simp only [sz_alloc, sz_set, sz_drew, sz_drewN] at *; omega)) _ | refine Below.setCell ?_ (by first | omega | (simp only [sz_alloc, sz_set, sz_drew, sz_drewN]; omega) | (simp only [sz_alloc, sz_set, sz_drew, sz_drewN] at *; omega)) _ | refine Below.drew ?_ | refine below_drewN_ ?_ _)) (Nat.le_refl _) (by first | omega | (simp only [sz_alloc, sz_set, sz_drew, sz_drewN]; omega) | (simp only [sz_alloc, sz_set, sz_drew, sz_drewN] at *; omega))⟩
                  have HA := Lib.hid hacc
                  clear hacc hgr hnew)
                go_roundw
                case rel => exact ⟨m + 1, E1, e1, _, by omega, by go_num, rfl, Lib.hid (by rw [HZ.out, HE.out]; exact HA.out), HS2⟩
                case measure => simp [intOf]; omega
              · have HE : Hid (rsM n z = (z.1, z.2)) := Lib.hid (by unfold rsM; rw [if_neg hm])
                have hm' : z.1 < 0 := by omega
                clear hm
                go_wp2_with (
                  at_builtin
                  refine wpList_push (α := Int × Int) _ rfl (.tmp 72) (.tmp 74) 75 rfl (wi.heap.size) 73 (.agg #[.int .i64 0, .int .i64 0]) 16 Try.underlying75 infoMove rfl A3 m c3 _ bs3 rfl (H3.out.below (C := wj.heap.size) (by repeat (first | exact Below.refl _ _ | refine Below.alloc ?_ (by first | omega | (simp only [sz_alloc, sz_set, sz_drew, sz_drewN]; omega) | (simp only [sz_alloc, sz_set, sz_drew, sz_drewN] at *; omega)) _ | refine Below.setCell ?_ (by first | omega | (simp only [sz_alloc, sz_set, sz_drew, sz_drewN]; omega) | (simp only [sz_alloc, sz_set, sz_drew, sz_drewN] at *; omega)) _ | refine Below.drew ?_ | refine below_drewN_ ?_ _)) (Nat.le_refl _)) (wj.heap.size + 1) 1 rfl (z.1, z.2) [.int .i64 z.1, .int .i64 z.2] [] ⟨rfl, rfl⟩ (new_cells (by first | rfl | simp [sz_set])) (fun u hu => by (simp at hu; first | (subst hu; rfl) | (rcases hu with rfl | rfl <;> rfl))) ⟨List.nodup_nil, fun g hg => by simp at hg⟩ (fun g hg => by simp at hg) (by omega) (by omega) (by first | omega | (simp only [sz_alloc, sz_set, sz_drew, sz_drewN]; omega) | (simp only [sz_alloc, sz_set, sz_drew, sz_drewN] at *; omega)) ?_
                  intro E1 e1 w2 hacc hgr hnew
                  have HS2 : Since wi w2 := ⟨Acc.since (H3.out.below (C := wj.heap.size) (by repeat (first | exact Below.refl _ _ | refine Below.alloc ?_ (by first | omega | (simp only [sz_alloc, sz_set, sz_drew, sz_drewN]; omega) | (simp only [sz_alloc, sz_set, sz_drew, sz_drewN] at *; omega)) _ | refine Below.setCell ?_ (by first | omega | (simp only [sz_alloc, sz_set, sz_drew, sz_drewN]; omega) | (simp only [sz_alloc, sz_set, sz_drew, sz_drewN] at *; omega)) _ | refine Below.drew ?_ | refine below_drewN_ ?_ _)) (Nat.le_refl _)) hgr (by repeat (first | exact Below.refl _ _ | exact Since.out (by assumption) | refine Below.alloc ?_ (by first | omega | (simp only [sz_alloc, sz_set, sz_drew, sz_drewN]; omega) | (simp only [sz_alloc, sz_set, sz_drew, sz_drewN] at *; omega)) _ | refine Below.setCell ?_ (by first | omega | (simp only [sz_alloc, sz_set, sz_drew, sz_drewN]; omega) | (simp only [sz_alloc, sz_set, sz_drew, sz_drewN] at *; omega)) _ | refine Below.drew ?_ | refine below_drewN_ ?_ _)) (Nat.le_refl _) (by first | omega | (simp only [sz_alloc, sz_set, sz_drew, sz_drewN]; omega) | (simp only [sz_alloc, sz_set, sz_drew, sz_drewN] at *; omega))⟩
                  have HA := Lib.hid hacc
                  clear hacc hgr hnew)
                go_roundw
                case rel => exact ⟨m + 1, E1, e1, _, by omega, by go_num, rfl, Lib.hid (by rw [HZ.out, HE.out]; exact HA.out), HS2⟩
                case measure => simp [intOf]; omega
            · obtain rfl : m = y.length := by omega
              have hrow := H3.out
              rw [List.take_length] at hrow
              have HROW := Lib.hid hrow
              clear hrow
              go_wp2_with (
                obtain ⟨b2, hy, hf⟩ := (HROW.out.alloc (.cells #[.slice A3 y.length c3] 75)).row (by omega)
                at_builtin
                refine wpList_push (α := List (Int × Int)) _ rfl (.tmp 76) (.tmp 78) 70 rfl (wo.heap.size) 75 (.slice none 0 0) 24 Try.underlying70 infoMoveSS rfl A2 j c2 _ bs2 rfl (H2.out.below (C := wi.heap.size) (by repeat (first | exact Below.refl _ _ | exact Since.out (by assumption) | refine Below.alloc ?_ (by first | omega | (simp only [sz_alloc, sz_set, sz_drew, sz_drewN]; omega) | (simp only [sz_alloc, sz_set, sz_drew, sz_drewN] at *; omega)) _ | refine Below.setCell ?_ (by first | omega | (simp only [sz_alloc, sz_set, sz_drew, sz_drewN]; omega) | (simp only [sz_alloc, sz_set, sz_drew, sz_drewN] at *; omega)) _ | refine Below.drew ?_ | refine below_drewN_ ?_ _)) (Nat.le_refl _)) (wj.heap.size) 1 rfl (rsL n y) [.slice A3 y.length c3] b2 (by have := hy; exact this) (new_cells (by first | rfl | simp [sz_set])) (fun u hu => by (simp at hu; first | (subst hu; rfl) | (rcases hu with rfl | rfl <;> rfl))) ⟨hf.1, fun g hg => ⟨by have := (hf.2 g hg).1; omega, (hf.2 g hg).2⟩⟩ (H2.out.apart hf (Nat.le_refl _)) (by omega) (by omega) (by first | omega | (simp only [sz_alloc, sz_set, sz_drew, sz_drewN]; omega) | (simp only [sz_alloc, sz_set, sz_drew, sz_drewN] at *; omega)) ?_
                intro D1 d1 w3 hacc hgr hnew
                have HS3 : Since wo w3 := ⟨Acc.since (H2.out.below (C := wi.heap.size) (by repeat (first | exact Below.refl _ _ | exact Since.out (by assumption) | refine Below.alloc ?_ (by first | omega | (simp only [sz_alloc, sz_set, sz_drew, sz_drewN]; omega) | (simp only [sz_alloc, sz_set, sz_drew, sz_drewN] at *; omega)) _ | refine Below.setCell ?_ (by first | omega | (simp only [sz_alloc, sz_set, sz_drew, sz_drewN]; omega) | (simp only [sz_alloc, sz_set, sz_drew, sz_drewN] at *; omega)) _ | refine Below.drew ?_ | refine below_drewN_ ?_ _)) (Nat.le_refl _)) hgr (below_cat hs2.out (by repeat (first | exact Below.refl _ _ | exact Since.out (by assumption) | refine Below.alloc ?_ (by first | omega | (simp only [sz_alloc, sz_set, sz_drew, sz_drewN]; omega) | (simp only [sz_alloc, sz_set, sz_drew, sz_drewN] at *; omega)) _ | refine Below.setCell ?_ (by first | omega | (simp only [sz_alloc, sz_set, sz_drew, sz_drewN]; omega) | (simp only [sz_alloc, sz_set, sz_drew, sz_drewN] at *; omega)) _ | refine Below.drew ?_ | refine below_drewN_ ?_ _)) hzi) (Nat.le_refl _) (by first | omega | (simp only [sz_alloc, sz_set, sz_drew, sz_drewN]; omega) | (simp only [sz_alloc, sz_set, sz_drew, sz_drewN] at *; omega))⟩
                have HA := Lib.hid hacc
                clear hacc hgr hnew hy hf)
              go_roundw
              case rel => exact ⟨j + 1, D1, d1, _, by omega, by go_num, rfl, Lib.hid (by rw [HT2.out]; exact HA.out), HS3⟩
              case measure => simp [intOf]; omega
        · obtain rfl : j = x.length := by omega
          have hrow := H2.out
          rw [List.take_length] at hrow
          have HROW := Lib.hid hrow
          clear hrow
          go_wp2_with (
            obtain ⟨b2, hy, hf⟩ := (HROW.out.alloc (.cells #[.slice A2 x.length c2] 70)).row (by omega)
            at_builtin
            refine wpList_push (α := List (List (Int × Int))) _ rfl (.tmp 80) (.tmp 82) 38 rfl (w.heap.size) 70 (.slice none 0 0) 24 Try.underlying38 infoMoveSSS rfl A1 k c1 _ bs rfl (H.out.below (C := wo.heap.size) (by repeat (first | exact Below.refl _ _ | exact Since.out (by assumption) | refine Below.alloc ?_ (by first | omega | (simp only [sz_alloc, sz_set, sz_drew, sz_drewN]; omega) | (simp only [sz_alloc, sz_set, sz_drew, sz_drewN] at *; omega)) _ | refine Below.setCell ?_ (by first | omega | (simp only [sz_alloc, sz_set, sz_drew, sz_drewN]; omega) | (simp only [sz_alloc, sz_set, sz_drew, sz_drewN] at *; omega)) _ | refine Below.drew ?_ | refine below_drewN_ ?_ _)) (Nat.le_refl _)) (wi.heap.size) 1 rfl (rsR n x) [.slice A2 x.length c2] b2 (by have := hy; exact this) (new_cells (by first | rfl | simp [sz_set])) (fun u hu => by (simp at hu; first | (subst hu; rfl) | (rcases hu with rfl | rfl <;> rfl))) ⟨hf.1, fun g hg => ⟨by have := (hf.2 g hg).1; omega, (hf.2 g hg).2⟩⟩ (H.out.apart hf (Nat.le_refl _)) (by omega) (by omega) (by first | omega | (simp only [sz_alloc, sz_set, sz_drew, sz_drewN]; omega) | (simp only [sz_alloc, sz_set, sz_drew, sz_drewN] at *; omega)) ?_
            intro D1 d1 w3 hacc hgr hnew
            have HS3 : Since w w3 := ⟨Acc.since (H.out.below (C := wo.heap.size) (by repeat (first | exact Below.refl _ _ | exact Since.out (by assumption) | refine Below.alloc ?_ (by first | omega | (simp only [sz_alloc, sz_set, sz_drew, sz_drewN]; omega) | (simp only [sz_alloc, sz_set, sz_drew, sz_drewN] at *; omega)) _ | refine Below.setCell ?_ (by first | omega | (simp only [sz_alloc, sz_set, sz_drew, sz_drewN]; omega) | (simp only [sz_alloc, sz_set, sz_drew, sz_drewN] at *; omega)) _ | refine Below.drew ?_ | refine below_drewN_ ?_ _)) (Nat.le_refl _)) hgr (below_cat hs.out (by repeat (first | exact Below.refl _ _ | exact Since.out (by assumption) | refine Below.alloc ?_ (by first | omega | (simp only [sz_alloc, sz_set, sz_drew, sz_drewN]; omega) | (simp only [sz_alloc, sz_set, sz_drew, sz_drewN] at *; omega)) _ | refine Below.setCell ?_ (by first | omega | (simp only [sz_alloc, sz_set, sz_drew, sz_drewN]; omega) | (simp only [sz_alloc, sz_set, sz_drew, sz_drewN] at *; omega)) _ | refine Below.drew ?_ | refine below_drewN_ ?_ _)) hzo) (Nat.le_refl _) (by first | omega | (simp only [sz_alloc, sz_set, sz_drew, sz_drewN]; omega) | (simp only [sz_alloc, sz_set, sz_drew, sz_drewN] at *; omega))⟩
            have HA := Lib.hid hacc
            clear hacc hgr hnew hy hf)
          go_roundw
          case rel => exact ⟨k + 1, D1, d1, _, by omega, by go_num, rfl, Lib.hid (by rw [HT.out]; exact HA.out), HS3⟩
          case measure => simp [intOf]; omega
    · obtain rfl : k = moves.length := by omega
      go_wp2
      go_ret
      have hA := H.out
      rw [List.take_length] at hA
      exact ⟨A1, c1, bs, rfl, hA, hs.out⟩
end Go.Proofs.Ytpknkaidmefenaa
