/-
  Contract of the program's WandererOf. Conditions: those in each statement.
-/
import Derived.Test.YtepjgaakihhngaaVTurner
import Derived.Test.YtepjgaakihhngaaSWanderer
import Derived.Test.YtepjgaakihhngaaCat
set_option linter.unusedVariables false
set_option linter.unusedSimpArgs false
set_option maxRecDepth 100000
set_option maxHeartbeats 1000000
namespace Go.Proofs.Ytepjgaakihhngaa
open Go.RowKit

def wandE (m : Int × Int) : List (Int × Int) := if m.1 = -2 then [] else [m]
def wandR (r : List (Int × Int)) : List (List (Int × Int)) := r.map wandE
def Tn.wand (T : Tn) : Wn := ⟨T.letters, [T.start], T.moves.map wandR⟩
def Tn.wandC (T : Tn) : Wn := if T.okB && decide (T.moves.length ≤ 5) then T.wand else ⟨0, [], []⟩
def Tn.wandCode (T : Tn) : Int := if T.okB then (if T.moves.length ≤ 5 then 0 else 3) else 1
structure Tn.Ok (T : Tn) : Prop where
  l1 : 1 ≤ T.letters
  l3 : T.letters ≤ 3
  n1 : 1 ≤ T.moves.length
  n12 : T.moves.length ≤ 12
  s0 : 0 ≤ T.start
  s1 : T.start < T.moves.length
  row : ∀ r ∈ T.moves, (r.length : Int) = T.letters + 2
  mv : ∀ r ∈ T.moves, movesFrom T.moves.length T.letters 0 r = true
theorem Tn.ok_of {T : Tn} (h : T.okB = true) : T.Ok := by
  unfold Tn.okB inB at h
  simp only [Bool.and_eq_true, List.all_eq_true, decide_eq_true_eq] at h
  obtain ⟨⟨a1, a2⟩, ⟨b1, b2⟩, ⟨c1, c2⟩, e⟩ := h
  refine ⟨a1, a2, by omega, by omega, c1, by omega, fun r hr => ?_, fun r hr => ?_⟩ <;>
  · have := e r hr
    unfold rowOk at this
    simp only [Bool.and_eq_true, decide_eq_true_eq] at this
    first | exact this.1 | exact this.2

theorem totS_le {α : Type} [Cod α] {k : Nat} : ∀ {xs : List α}, (∀ x ∈ xs, Cod.tot x ≤ k) → totS xs ≤ k * xs.length
  | [], _ => Nat.zero_le _
  | x :: xs, h => by
    have h1 := h x (List.mem_cons_self ..)
    have h2 := totS_le (xs := xs) fun y hy => h y (List.mem_cons_of_mem _ hy)
    rw [totS, List.length_cons, Nat.mul_add]
    omega
theorem wandE_tot (m : Int × Int) : Cod.tot (wandE m) ≤ 1 := by
  unfold wandE
  split <;> simp [tot_list, totS, Cod.tot]
theorem wandC_tot (T : Tn) : T.wandC.tot ≤ 1048576 := by
  unfold Tn.wandC
  by_cases hk : T.okB = true
  · by_cases h5 : T.moves.length ≤ 5
    · have OK := Tn.ok_of hk
      rw [if_pos (by simp [hk, h5])]
      have hr : ∀ r ∈ T.moves.map wandR, Cod.tot r ≤ 10 := by
        intro r hr
        obtain ⟨x, hx, rfl⟩ := List.mem_map.1 hr
        have hl := OK.row x hx
        have l3 := OK.l3
        rw [tot_list]
        have : totS (wandR x) ≤ 1 * (wandR x).length := totS_le fun y hy => by
          obtain ⟨m, _, rfl⟩ := List.mem_map.1 hy
          exact wandE_tot m
        have : (wandR x).length = x.length := by simp [wandR]
        omega
      have := totS_le hr
      rw [List.length_map] at this
      unfold Wn.tot Tn.wand
      simp only [tot_list, List.length_map, List.length_singleton]
      have h0 : totS [T.start] = 0 := totS_zero (fun _ => rfl) _
      omega
    · rw [if_neg (by simp [h5])]
      simp [Wn.tot, tot_list, totS]
  · rw [if_neg (by simp [hk])]
    simp [Wn.tot, tot_list, totS]

theorem wandererOf_yes (A1 : Option Addr) (c1 : Nat) (T : Tn) (w : World) (r1 : RdS w w.heap.size A1 T.moves) (hok : T.okB = true) (h5 : T.moves.length ≤ 5) (hn : T.tot ≤ 1048576) :
    Calls Try.prog 14 #[.agg #[.int .i64 T.letters, .int .i64 T.start, .slice A1 T.moves.length c1]] w (RetWnC T.wand 0 w) := by
  have OK := Tn.ok_of hok
  have HO := Lib.hid hok
  clear hok
  obtain ⟨l1, l3, n1, n12, s0, s1, hrow, hmv⟩ := OK
  have HR := Lib.hid hrow
  clear hrow hmv
  have h5' : (T.moves.length : Int) ≤ 5 := by omega
  go_enter Try.func14, Try.ntmps14
  go_wp2_with fail
  refine (validTurner_impl _ T _ ⟨A1, c1, rfl, r1.up (by repeat (first | exact Below.refl _ _ | refine Below.alloc ?_ (by first | omega | (simp only [sz_alloc, sz_set, sz_drew, sz_drewN]; omega) | (simp only [sz_alloc, sz_set, sz_drew, sz_drewN] at *; omega)) _ | refine Below.setCell ?_ (by first | omega | (simp only [sz_alloc, sz_set, sz_drew, sz_drewN]; omega) | (simp only [sz_alloc, sz_set, sz_drew, sz_drewN] at *; omega)) _ | refine Below.drew ?_ | refine below_drewN_ ?_ _))⟩ hn).mono ?_
  rintro e w1 ⟨rfl, hb1⟩
  rw [HO.out]
  have HBw1 : Since w w1 := ⟨below_cat (by repeat (first | exact Below.refl _ _ | exact Since.out (by assumption) | refine Below.alloc ?_ (by first | omega | (simp only [sz_alloc, sz_set, sz_drew, sz_drewN]; omega) | (simp only [sz_alloc, sz_set, sz_drew, sz_drewN] at *; omega)) _ | refine Below.setCell ?_ (by first | omega | (simp only [sz_alloc, sz_set, sz_drew, sz_drewN]; omega) | (simp only [sz_alloc, sz_set, sz_drew, sz_drewN] at *; omega)) _ | refine Below.drew ?_ | refine below_drewN_ ?_ _)) hb1 (by first | omega | (simp only [sz_alloc, sz_set, sz_drew, sz_drewN]; omega) | (simp only [sz_alloc, sz_set, sz_drew, sz_drewN] at *; omega))⟩; have hzw1 := hb1.size; (try simp only [sz_alloc, sz_set, sz_drew, sz_drewN] at hzw1); have hcw1k0 := fun o => hb1.cell (p := ⟨w.heap.size, o, none⟩) (by first | omega | (simp only [sz_alloc, sz_set, sz_drew, sz_drewN]; omega) | (simp only [sz_alloc, sz_set, sz_drew, sz_drewN] at *; omega)); have hfw1k0 := fun o => hb1.frozen (p := ⟨w.heap.size, o, none⟩) (by first | omega | (simp only [sz_alloc, sz_set, sz_drew, sz_drewN]; omega) | (simp only [sz_alloc, sz_set, sz_drew, sz_drewN] at *; omega)); have hlw1k0 : w.heap.size < w1.heap.size := (by first | omega | (simp only [sz_alloc, sz_set, sz_drew, sz_drewN]; omega) | (simp only [sz_alloc, sz_set, sz_drew, sz_drewN] at *; omega)); have hcw1k1 := fun o => hb1.cell (p := ⟨w.heap.size + 1, o, none⟩) (by first | omega | (simp only [sz_alloc, sz_set, sz_drew, sz_drewN]; omega) | (simp only [sz_alloc, sz_set, sz_drew, sz_drewN] at *; omega)); have hfw1k1 := fun o => hb1.frozen (p := ⟨w.heap.size + 1, o, none⟩) (by first | omega | (simp only [sz_alloc, sz_set, sz_drew, sz_drewN]; omega) | (simp only [sz_alloc, sz_set, sz_drew, sz_drewN] at *; omega)); have hlw1k1 : w.heap.size + 1 < w1.heap.size := (by first | omega | (simp only [sz_alloc, sz_set, sz_drew, sz_drewN]; omega) | (simp only [sz_alloc, sz_set, sz_drew, sz_drewN] at *; omega))
  go_wp2
  go_loopw [31] (fun i wr => ∃ (k : Nat) (A : Option Addr) (c : Nat) (bs : List Nat), k ≤ T.moves.length ∧ i = .int .i64 k ∧ Hid (Acc wr (w1.heap.size + 2) 32 A k c ((T.moves.take k).map wandR) bs ∧
      wr.heap[w1.heap.size + 1]? = some (.cells #[.int .i64 T.letters, .slice (some ⟨w1.heap.size, 0, none⟩) 1 1, .slice A k c] 29 (0, 0)) ∧ wr.heap[w1.heap.size]? = some (.cells #[.int .i64 T.start] 2 (0, 0))) ∧ Since w1 wr ∧ w1.heap.size + 2 ≤ wr.heap.size) (fun i _ => T.moves.length - (intOf i).toNat)
  case atStart => exact ⟨0, none, 0, [], Nat.zero_le _, rfl, Lib.hid ⟨Acc.nil_ _ _ _, new_block (by simp), alloc_block (new_block rfl) (by simp)⟩, ⟨(by repeat (first | exact Below.refl _ _ | refine Below.alloc ?_ (by first | omega | (simp only [sz_alloc, sz_set, sz_drew, sz_drewN]; omega) | (simp only [sz_alloc, sz_set, sz_drew, sz_drewN] at *; omega)) _ | refine Below.setCell ?_ (by first | omega | (simp only [sz_alloc, sz_set, sz_drew, sz_drewN]; omega) | (simp only [sz_alloc, sz_set, sz_drew, sz_drewN] at *; omega)) _ | refine Below.drew ?_ | refine below_drewN_ ?_ _))⟩, (by first | omega | (simp only [sz_alloc, sz_set, sz_drew, sz_drewN]; omega) | (simp only [sz_alloc, sz_set, sz_drew, sz_drewN] at *; omega))⟩
  case round =>
    obtain ⟨k, A, c, bs, hk, rfl, H, hs, hzr⟩ := hrel
    obtain ⟨wo, rfl⟩ : ∃ wo, wo = wr := ⟨_, rfl⟩
    by_cases hlt : k < T.moves.length
    · obtain ⟨x, hx⟩ := get_some hlt
      have rb := (r1.up HBw1.out).up hs.out
      obtain ⟨b', o, P, p, rfl, hbb, cx, hxl, rx⟩ := rb.row hx
      have hx5 : x.length ≤ 5 := by have := HR.out x (List.mem_of_getElem? hx); omega
      have HX : Hid ((T.moves.take (k + 1)).map wandR = (T.moves.take k).map wandR ++ [wandR x]) := Lib.hid (by rw [take_snoc hx]; simp)
      have i2 : (0 : Int) ≤ (k : Int) := by omega
      have i3 : (k : Int) < (T.moves.length : Int) := by omega
      clear hx
      go_wp2
      go_loopw [7, 38] (fun l i wi => ∃ (j : Nat) (A' : Option Addr) (c' : Nat) (bs' : List Nat), j ≤ x.length ∧ i = .int .i64 j ∧ l = .slice A' j c' ∧ Hid (Acc wi wo.heap.size 92 A' j c' ((x.take j).map wandE) bs') ∧ Since wo wi) (fun _ i _ => x.length - (intOf i).toNat)
      case atStart => exact ⟨0, _, _, [], Nat.zero_le _, rfl, rfl, Lib.hid (Acc.empty_ (new_block rfl) (Nat.le_refl _)), ⟨(by repeat (first | exact Below.refl _ _ | refine Below.alloc ?_ (by first | omega | (simp only [sz_alloc, sz_set, sz_drew, sz_drewN]; omega) | (simp only [sz_alloc, sz_set, sz_drew, sz_drewN] at *; omega)) _ | refine Below.setCell ?_ (by first | omega | (simp only [sz_alloc, sz_set, sz_drew, sz_drewN]; omega) | (simp only [sz_alloc, sz_set, sz_drew, sz_drewN] at *; omega)) _ | refine Below.drew ?_ | refine below_drewN_ ?_ _))⟩⟩
      case round =>
        obtain ⟨j, A', c', bs', hj, rfl, rfl, H2, hs2⟩ := hrel
        obtain ⟨wi, rfl⟩ : ∃ wi, wi = wr := ⟨_, rfl⟩
        have hzi := hs2.out.size
        by_cases hlt2 : j < x.length
        · obtain ⟨z, hz⟩ := get_some hlt2
          obtain ⟨f, g, rfl, hff, c5, c6⟩ := (rx.up hs2.out).pair hz
          have HZ : Hid ((x.take (j + 1)).map wandE = (x.take j).map wandE ++ [wandE z]) := Lib.hid (by rw [take_snoc hz]; simp)
          have j2 : (0 : Int) ≤ (j : Int) := by omega
          have j3 : (j : Int) < (x.length : Int) := by omega
          clear hz
          by_cases hm : z.1 = -2
          · have HE : Hid (wandE z = []) := Lib.hid (by unfold wandE; rw [if_pos hm])
            have e1 : (z.1 != -2) = false := by simp [hm]
            clear hm
            go_wp2_with (at_builtin; refine wpList_push (α := List (Int × Int)) _ rfl (.tmp 50) (.tmp 52) 32 rfl wo.heap.size 92 (.slice none 0 0) 24 Try.underlying32 infoMoveSS rfl A' j c' _ bs' rfl (H2.out.below (C := wi.heap.size) (by repeat (first | exact Below.refl _ _ | refine Below.alloc ?_ (by first | omega | (simp only [sz_alloc, sz_set, sz_drew, sz_drewN]; omega) | (simp only [sz_alloc, sz_set, sz_drew, sz_drewN] at *; omega)) _ | refine Below.setCell ?_ (by first | omega | (simp only [sz_alloc, sz_set, sz_drew, sz_drewN]; omega) | (simp only [sz_alloc, sz_set, sz_drew, sz_drewN] at *; omega)) _ | refine Below.drew ?_ | refine below_drewN_ ?_ _)) (Nat.le_refl _)) (wi.heap.size + 1 + 1) 1 rfl [] [.slice (some ⟨wi.heap.size + 1, 0, none⟩) 0 0] [] ⟨_, _, rfl, by simp, .inl ⟨rfl, rfl⟩⟩ (new_cells (by first | rfl | simp [sz_set])) (fun u hu => by (simp at hu; subst hu; rfl)) ⟨List.nodup_nil, fun g hg => by simp at hg⟩ (fun g hg => by simp at hg) (by omega) (by omega) (by first | omega | (simp only [sz_alloc, sz_set, sz_drew, sz_drewN]; omega) | (simp only [sz_alloc, sz_set, sz_drew, sz_drewN] at *; omega)) ?_
                         intro D1 d1 w2 hacc hgr hnew
                         have HS2 : Since wo w2 := ⟨Acc.since (H2.out.below (C := wi.heap.size) (by repeat (first | exact Below.refl _ _ | refine Below.alloc ?_ (by first | omega | (simp only [sz_alloc, sz_set, sz_drew, sz_drewN]; omega) | (simp only [sz_alloc, sz_set, sz_drew, sz_drewN] at *; omega)) _ | refine Below.setCell ?_ (by first | omega | (simp only [sz_alloc, sz_set, sz_drew, sz_drewN]; omega) | (simp only [sz_alloc, sz_set, sz_drew, sz_drewN] at *; omega)) _ | refine Below.drew ?_ | refine below_drewN_ ?_ _)) (Nat.le_refl _)) hgr (by repeat (first | exact Below.refl _ _ | exact Since.out (by assumption) | refine Below.alloc ?_ (by first | omega | (simp only [sz_alloc, sz_set, sz_drew, sz_drewN]; omega) | (simp only [sz_alloc, sz_set, sz_drew, sz_drewN] at *; omega)) _ | refine Below.setCell ?_ (by first | omega | (simp only [sz_alloc, sz_set, sz_drew, sz_drewN]; omega) | (simp only [sz_alloc, sz_set, sz_drew, sz_drewN] at *; omega)) _ | refine Below.drew ?_ | refine below_drewN_ ?_ _)) (Nat.le_refl _) (by first | omega | (simp only [sz_alloc, sz_set, sz_drew, sz_drewN]; omega) | (simp only [sz_alloc, sz_set, sz_drew, sz_drewN] at *; omega))⟩
                         have HA := Lib.hid hacc
                         clear hacc hgr hnew)
            go_roundw
            case rel => exact ⟨j + 1, D1, d1, _, by omega, by go_num, rfl, Lib.hid (by rw [HZ.out, HE.out]; exact HA.out), HS2⟩
            case measure => simp [intOf]; omega
          · have HE : Hid (wandE z = [z]) := Lib.hid (by unfold wandE; rw [if_neg hm])
            have e1 : (z.1 != -2) = true := by simp [hm]
            clear hm
            go_wp2_with (first
              | (at_builtin; refine wpList_push (α := Int × Int) _ rfl (.tmp 46) (.tmp 48) 92 rfl wi.heap.size 94 (.agg #[.int .i64 0, .int .i64 0]) 16 Try.underlying92 infoMove rfl (some ⟨wi.heap.size + 1, 0, none⟩) 0 0 ([] : List (Int × Int)) [] rfl (Acc.alloc (Acc.empty_ (new_block (by simp)) (by omega)) _) (wi.heap.size + 1 + 1) 1 rfl z [.int .i64 z.1, .int .i64 z.2] [] ⟨rfl, rfl⟩ (new_cells (by first | rfl | simp [sz_set])) (fun u hu => by (simp at hu; rcases hu with rfl | rfl <;> rfl)) ⟨List.nodup_nil, fun g hg => by simp at hg⟩ (fun g hg => by simp at hg) (by omega) (by omega) (by first | omega | (simp only [sz_alloc, sz_set, sz_drew, sz_drewN]; omega) | (simp only [sz_alloc, sz_set, sz_drew, sz_drewN] at *; omega)) ?_
                 intro E1 e1' w2 hacc hgr hnew
                 have HS1 : Since wi w2 := ⟨Below.grown (by repeat (first | exact Below.refl _ _ | refine Below.alloc ?_ (by first | omega | (simp only [sz_alloc, sz_set, sz_drew, sz_drewN]; omega) | (simp only [sz_alloc, sz_set, sz_drew, sz_drewN] at *; omega)) _ | refine Below.setCell ?_ (by first | omega | (simp only [sz_alloc, sz_set, sz_drew, sz_drewN]; omega) | (simp only [sz_alloc, sz_set, sz_drew, sz_drewN] at *; omega)) _ | refine Below.drew ?_ | refine below_drewN_ ?_ _)) hgr (by first | omega | (simp only [sz_alloc, sz_set, sz_drew, sz_drewN]; omega) | (simp only [sz_alloc, sz_set, sz_drew, sz_drewN] at *; omega)) (fun g hg => by simp at hg; omega)⟩
                 have HE1 := Lib.hid hacc
                 have hz2 := HS1.out.size
                 clear hacc hgr hnew)
              | (obtain ⟨b2, hy, hf⟩ := (HE1.out.alloc (.cells #[.slice E1 (0 + 1) e1'] 92)).row (by omega)
                 at_builtin; refine wpList_push (α := List (Int × Int)) _ rfl (.tmp 50) (.tmp 52) 32 rfl wo.heap.size 92 (.slice none 0 0) 24 Try.underlying32 infoMoveSS rfl A' j c' _ bs' rfl (H2.out.below (C := wi.heap.size) (by repeat (first | exact Below.refl _ _ | exact Since.out (by assumption) | refine Below.alloc ?_ (by first | omega | (simp only [sz_alloc, sz_set, sz_drew, sz_drewN]; omega) | (simp only [sz_alloc, sz_set, sz_drew, sz_drewN] at *; omega)) _ | refine Below.setCell ?_ (by first | omega | (simp only [sz_alloc, sz_set, sz_drew, sz_drewN]; omega) | (simp only [sz_alloc, sz_set, sz_drew, sz_drewN] at *; omega)) _ | refine Below.drew ?_ | refine below_drewN_ ?_ _)) (Nat.le_refl _)) w2.heap.size 1 rfl [z] [.slice E1 1 e1'] b2 hy (new_cells (by first | rfl | simp [sz_set])) (fun u hu => by (simp at hu; subst hu; rfl)) ⟨hf.1, fun g hg => ⟨by have := (hf.2 g hg).1; omega, (hf.2 g hg).2⟩⟩ (H2.out.apart hf (Nat.le_refl _)) (by omega) (by omega) (by first | omega | (simp only [sz_alloc, sz_set, sz_drew, sz_drewN]; omega) | (simp only [sz_alloc, sz_set, sz_drew, sz_drewN] at *; omega)) ?_
                 intro D1 d1 w3 hacc hgr hnew
                 have HS2 : Since wo w3 := ⟨Acc.since (H2.out.below (C := wi.heap.size) (by repeat (first | exact Below.refl _ _ | exact Since.out (by assumption) | refine Below.alloc ?_ (by first | omega | (simp only [sz_alloc, sz_set, sz_drew, sz_drewN]; omega) | (simp only [sz_alloc, sz_set, sz_drew, sz_drewN] at *; omega)) _ | refine Below.setCell ?_ (by first | omega | (simp only [sz_alloc, sz_set, sz_drew, sz_drewN]; omega) | (simp only [sz_alloc, sz_set, sz_drew, sz_drewN] at *; omega)) _ | refine Below.drew ?_ | refine below_drewN_ ?_ _)) (Nat.le_refl _)) hgr (below_cat hs2.out (by repeat (first | exact Below.refl _ _ | exact Since.out (by assumption) | refine Below.alloc ?_ (by first | omega | (simp only [sz_alloc, sz_set, sz_drew, sz_drewN]; omega) | (simp only [sz_alloc, sz_set, sz_drew, sz_drewN] at *; omega)) _ | refine Below.setCell ?_ (by first | omega | (simp only [sz_alloc, sz_set, sz_drew, sz_drewN]; omega) | (simp only [sz_alloc, sz_set, sz_drew, sz_drewN] at *; omega)) _ | refine Below.drew ?_ | refine below_drewN_ ?_ _)) hs2.out.size) (Nat.le_refl _) (by first | omega | (simp only [sz_alloc, sz_set, sz_drew, sz_drewN]; omega) | (simp only [sz_alloc, sz_set, sz_drew, sz_drewN] at *; omega))⟩
                 have HA := Lib.hid hacc
                 clear hacc hgr hnew hy hf))
            go_roundw
            case rel => exact ⟨j + 1, D1, d1, _, by omega, by go_num, rfl, Lib.hid (by rw [HZ.out, HE.out]; exact HA.out), HS2⟩
            case measure => simp [intOf]; omega
        · obtain rfl : j = x.length := by omega
          have hrow := H2.out
          rw [List.take_length] at hrow
          have q0 : wi.heap[w1.heap.size + 1]? = some (.cells #[.int .i64 T.letters, .slice (some ⟨w1.heap.size, 0, none⟩) 1 1, .slice A k c] 29 (0, 0)) := (hs2.out.block _ (by omega)).trans H.out.2.1
          have q1 : wi.heap[w1.heap.size]? = some (.cells #[.int .i64 T.start] 2 (0, 0)) := (hs2.out.block _ (by omega)).trans H.out.2.2
          have k2 : wi.cell? ⟨w1.heap.size + 1, 2, none⟩ = some (.slice A k c) := cell_of_row wi _ 2 _ _ (0, 0) q0
          have Q0 := Lib.hid q0
          have Q1 := Lib.hid q1
          have HROW := Lib.hid hrow
          clear q0 q1 hrow
          go_wp2_with (obtain ⟨b2, hy, hf⟩ := (HROW.out.alloc (.cells #[.slice A' x.length c'] 32)).row (by omega)
                       at_builtin; refine wpList_push (α := List (List (Int × Int))) _ rfl (.tmp 56) (.tmp 58) 27 rfl (w1.heap.size + 2) 32 (.slice none 0 0) 24 Try.underlying27 infoMoveSSS rfl A k c _ bs rfl (H.out.1.below (C := wo.heap.size) (by repeat (first | exact Below.refl _ _ | exact Since.out (by assumption) | refine Below.alloc ?_ (by first | omega | (simp only [sz_alloc, sz_set, sz_drew, sz_drewN]; omega) | (simp only [sz_alloc, sz_set, sz_drew, sz_drewN] at *; omega)) _ | refine Below.setCell ?_ (by first | omega | (simp only [sz_alloc, sz_set, sz_drew, sz_drewN]; omega) | (simp only [sz_alloc, sz_set, sz_drew, sz_drewN] at *; omega)) _ | refine Below.drew ?_ | refine below_drewN_ ?_ _)) (Nat.le_refl _)) wi.heap.size 1 rfl (wandR x) [.slice A' x.length c'] b2 hy (new_cells (by first | rfl | simp [sz_set])) (fun u hu => by (simp at hu; subst hu; rfl)) ⟨hf.1, fun g hg => ⟨by have := (hf.2 g hg).1; omega, (hf.2 g hg).2⟩⟩ (H.out.1.apart hf (Nat.le_refl _)) (by omega) (by omega) (by first | omega | (simp only [sz_alloc, sz_set, sz_drew, sz_drewN]; omega) | (simp only [sz_alloc, sz_set, sz_drew, sz_drewN] at *; omega)) ?_
                       intro D d w3 hacc hgr hnew
                       have HS3 : Since w1 w3 := ⟨Acc.since (H.out.1.below (C := wo.heap.size) (by repeat (first | exact Below.refl _ _ | exact Since.out (by assumption) | refine Below.alloc ?_ (by first | omega | (simp only [sz_alloc, sz_set, sz_drew, sz_drewN]; omega) | (simp only [sz_alloc, sz_set, sz_drew, sz_drewN] at *; omega)) _ | refine Below.setCell ?_ (by first | omega | (simp only [sz_alloc, sz_set, sz_drew, sz_drewN]; omega) | (simp only [sz_alloc, sz_set, sz_drew, sz_drewN] at *; omega)) _ | refine Below.drew ?_ | refine below_drewN_ ?_ _)) (Nat.le_refl _)) hgr (below_cat hs.out (by repeat (first | exact Below.refl _ _ | exact Since.out (by assumption) | refine Below.alloc ?_ (by first | omega | (simp only [sz_alloc, sz_set, sz_drew, sz_drewN]; omega) | (simp only [sz_alloc, sz_set, sz_drew, sz_drewN] at *; omega)) _ | refine Below.setCell ?_ (by first | omega | (simp only [sz_alloc, sz_set, sz_drew, sz_drewN]; omega) | (simp only [sz_alloc, sz_set, sz_drew, sz_drewN] at *; omega)) _ | refine Below.drew ?_ | refine below_drewN_ ?_ _)) hs.out.size) (by omega) (by first | omega | (simp only [sz_alloc, sz_set, sz_drew, sz_drewN]; omega) | (simp only [sz_alloc, sz_set, sz_drew, sz_drewN] at *; omega))⟩
                       have hB1 := (H.out.1.below (w' := wi.alloc (.cells #[.slice A' x.length c'] 32)) (C := wo.heap.size) (by repeat (first | exact Below.refl _ _ | exact Since.out (by assumption) | refine Below.alloc ?_ (by first | omega | (simp only [sz_alloc, sz_set, sz_drew, sz_drewN]; omega) | (simp only [sz_alloc, sz_set, sz_drew, sz_drewN] at *; omega)) _ | refine Below.setCell ?_ (by first | omega | (simp only [sz_alloc, sz_set, sz_drew, sz_drewN]; omega) | (simp only [sz_alloc, sz_set, sz_drew, sz_drewN] at *; omega)) _ | refine Below.drew ?_ | refine below_drewN_ ?_ _)) (Nat.le_refl _)).box hgr (alloc_block Q0.out (by omega)) (by omega)
                       have hB2 := (H.out.1.below (w' := wi.alloc (.cells #[.slice A' x.length c'] 32)) (C := wo.heap.size) (by repeat (first | exact Below.refl _ _ | exact Since.out (by assumption) | refine Below.alloc ?_ (by first | omega | (simp only [sz_alloc, sz_set, sz_drew, sz_drewN]; omega) | (simp only [sz_alloc, sz_set, sz_drew, sz_drewN] at *; omega)) _ | refine Below.setCell ?_ (by first | omega | (simp only [sz_alloc, sz_set, sz_drew, sz_drewN]; omega) | (simp only [sz_alloc, sz_set, sz_drew, sz_drewN] at *; omega)) _ | refine Below.drew ?_ | refine below_drewN_ ?_ _)) (Nat.le_refl _)).box hgr (alloc_block Q1.out (by omega)) (by omega)
                       have f2 : w3.frozen? ⟨w1.heap.size + 1, 2, none⟩ = false := blk_free hB1
                       have k3 : w3.cell? ⟨w1.heap.size + 1, 2, none⟩ = some (.slice A k c) := cell_of_row w3 _ 2 _ _ (0, 0) hB1
                       have hz3 : w1.heap.size + 1 < w3.heap.size := (Array.getElem?_eq_some_iff.1 hB1).1
                       have HB1 := Lib.hid hB1
                       have HB2 := Lib.hid hB2
                       have HA := Lib.hid hacc
                       clear hacc hgr hnew hy hf hB1 hB2)
          go_roundw
          case rel =>
            refine ⟨k + 1, D, d, bs ++ b2, by omega, by go_num, Lib.hid ⟨?_, ?_, ?_⟩, ⟨(by repeat (first | exact Below.refl _ _ | exact Since.out (by assumption) | refine Below.alloc ?_ (by first | omega | (simp only [sz_alloc, sz_set, sz_drew, sz_drewN]; omega) | (simp only [sz_alloc, sz_set, sz_drew, sz_drewN] at *; omega)) _ | refine Below.setCell ?_ (by first | omega | (simp only [sz_alloc, sz_set, sz_drew, sz_drewN]; omega) | (simp only [sz_alloc, sz_set, sz_drew, sz_drewN] at *; omega)) _ | refine Below.drew ?_ | refine below_drewN_ ?_ _))⟩, (by first | omega | (simp only [sz_alloc, sz_set, sz_drew, sz_drewN]; omega) | (simp only [sz_alloc, sz_set, sz_drew, sz_drewN] at *; omega))⟩
            · rw [HX.out]
              exact HA.out.setCell (fun a ha => by have := HA.out.lt a ha; simp; omega) (fun hm => by have := (HA.out.fresh.2 _ hm).1; simp at this) _
            · exact blk_set HB1.out _
            · exact blk_far HB2.out (by simp) _
          case measure => simp [intOf]; omega
    · obtain rfl : k = T.moves.length := by omega
      have q0 := H.out.2.1
      have k0 : wo.cell? ⟨w1.heap.size + 1, 0, none⟩ = some (.int .i64 T.letters) := cell_of_row wo _ 0 _ _ (0, 0) q0
      have k1 : wo.cell? ⟨w1.heap.size + 1, 1, none⟩ = some (.slice (some ⟨w1.heap.size, 0, none⟩) 1 1) := cell_of_row wo _ 1 _ _ (0, 0) q0
      have k2 : wo.cell? ⟨w1.heap.size + 1, 2, none⟩ = some (.slice A T.moves.length c) := cell_of_row wo _ 2 _ _ (0, 0) q0
      clear q0
      have hcwo1 := fun o => hs.out.cell (p := ⟨w.heap.size + 1, o, none⟩) (by first | omega | (simp only [sz_alloc, sz_set, sz_drew, sz_drewN]; omega) | (simp only [sz_alloc, sz_set, sz_drew, sz_drewN] at *; omega)); have hfwo1 := fun o => hs.out.frozen (p := ⟨w.heap.size + 1, o, none⟩) (by first | omega | (simp only [sz_alloc, sz_set, sz_drew, sz_drewN]; omega) | (simp only [sz_alloc, sz_set, sz_drew, sz_drewN] at *; omega)); have hlwo1 : w.heap.size + 1 < _ := Nat.lt_of_lt_of_le (m := _) (by first | omega | (simp only [sz_alloc, sz_set, sz_drew, sz_drewN]; omega) | (simp only [sz_alloc, sz_set, sz_drew, sz_drewN] at *; omega)) hs.out.size
      have HBwo : Since w wo := ⟨below_cat HBw1.out hs.out HBw1.out.size⟩
      go_wp2
      have hA := H.out.1
      rw [List.take_length] at hA
      obtain ⟨b2, o2, f2, _⟩ := hA.own
      have o1 : OwnS wo (some ⟨w1.heap.size, 0, none⟩) [T.start] [w1.heap.size] := OwnS.of (m := 1) H.out.2.2 ⟨[.int .i64 T.start], [], [], [], rfl, rfl, ⟨rfl, rfl⟩, rfl, rfl⟩
      refine bodyPost_ret (v := .tuple #[.agg #[.int .i64 T.letters, .slice (some ⟨w1.heap.size, 0, none⟩) 1 1, .slice A T.moves.length c], .int .i64 0]) (by simp [results, Try.results14, go_sem, hcwo1, hcw1k1]) rfl
        ⟨_, w1.heap.size :: b2, rfl, ⟨some ⟨w1.heap.size, 0, none⟩, 1, A, c, [w1.heap.size], b2, by simp [Tn.wand], o1.only (bs' := [w.heap.size + 1]) (by repeat (first | with_reducible exact OnlyB.refl _ _ | with_reducible refine OnlyB.setCell ?_ (by simp) _ | with_reducible refine OnlyB.alloc ?_ _ | with_reducible refine OnlyB.drew ?_ | refine OnlyB.trans ?_ (OnlyB.of_below (by assumption) _))) (fun g hg => ?_), o2.only (bs' := [w.heap.size + 1]) (by repeat (first | with_reducible exact OnlyB.refl _ _ | with_reducible refine OnlyB.setCell ?_ (by simp) _ | with_reducible refine OnlyB.alloc ?_ _ | with_reducible refine OnlyB.drew ?_ | refine OnlyB.trans ?_ (OnlyB.of_below (by assumption) _))) (fun g hg => ?_), rfl⟩, ⟨List.nodup_cons.2 ⟨fun hm => ?_, f2.1⟩, fun g hg => ?_⟩, (by repeat (first | exact Below.refl _ _ | exact Since.out (by assumption) | refine Below.alloc ?_ (by first | omega | (simp only [sz_alloc, sz_set, sz_drew, sz_drewN]; omega) | (simp only [sz_alloc, sz_set, sz_drew, sz_drewN] at *; omega)) _ | refine Below.setCell ?_ (by first | omega | (simp only [sz_alloc, sz_set, sz_drew, sz_drewN]; omega) | (simp only [sz_alloc, sz_set, sz_drew, sz_drewN] at *; omega)) _ | refine Below.drew ?_ | refine below_drewN_ ?_ _))⟩
      · simp at hg; subst hg; simp; omega
      · have := f2.2 g hg; simp; omega
      · have := f2.2 _ hm; omega
      · simp only [sz_set]
        rcases List.mem_cons.1 hg with rfl | hg
        · omega
        · have := f2.2 g hg; omega

theorem wandererOf_impl (v : Value) (T : Tn) (w : World) (h1 : RdTn w w.heap.size v T) (hn : T.tot ≤ 1048576) :
    Calls Try.prog 14 #[v] w (RetWnC T.wandC T.wandCode w) := by
  obtain ⟨A1, c1, rfl, r1⟩ := h1
  by_cases hok : T.okB = true
  · by_cases h5 : T.moves.length ≤ 5
    · have hC : T.wandC = T.wand := by unfold Tn.wandC; simp [hok, h5]
      have hD : T.wandCode = 0 := by unfold Tn.wandCode; simp [hok, h5]
      rw [hC, hD]
      exact wandererOf_yes A1 c1 T w r1 hok h5 hn
    · have hC : Hid (T.wandC = ⟨0, [], []⟩ ∧ T.wandCode = 3) := Lib.hid (by unfold Tn.wandC Tn.wandCode; simp [hok, h5])
      rw [hC.out.1, hC.out.2]
      have HO := Lib.hid hok
      have hl := (Tn.ok_of hok).n12
      have h5' : (5 : Int) < (T.moves.length : Int) := by omega
      clear hok
      go_enter Try.func14, Try.ntmps14
      go_wp2_with fail
      refine (validTurner_impl _ T _ ⟨A1, c1, rfl, r1.up (by repeat (first | exact Below.refl _ _ | refine Below.alloc ?_ (by first | omega | (simp only [sz_alloc, sz_set, sz_drew, sz_drewN]; omega) | (simp only [sz_alloc, sz_set, sz_drew, sz_drewN] at *; omega)) _ | refine Below.setCell ?_ (by first | omega | (simp only [sz_alloc, sz_set, sz_drew, sz_drewN]; omega) | (simp only [sz_alloc, sz_set, sz_drew, sz_drewN] at *; omega)) _ | refine Below.drew ?_ | refine below_drewN_ ?_ _))⟩ hn).mono ?_
      rintro e w1 ⟨rfl, hb1⟩
      rw [HO.out]
      have HBw1 : Since w w1 := ⟨below_cat (by repeat (first | exact Below.refl _ _ | exact Since.out (by assumption) | refine Below.alloc ?_ (by first | omega | (simp only [sz_alloc, sz_set, sz_drew, sz_drewN]; omega) | (simp only [sz_alloc, sz_set, sz_drew, sz_drewN] at *; omega)) _ | refine Below.setCell ?_ (by first | omega | (simp only [sz_alloc, sz_set, sz_drew, sz_drewN]; omega) | (simp only [sz_alloc, sz_set, sz_drew, sz_drewN] at *; omega)) _ | refine Below.drew ?_ | refine below_drewN_ ?_ _)) hb1 (by first | omega | (simp only [sz_alloc, sz_set, sz_drew, sz_drewN]; omega) | (simp only [sz_alloc, sz_set, sz_drew, sz_drewN] at *; omega))⟩; have hzw1 := hb1.size; (try simp only [sz_alloc, sz_set, sz_drew, sz_drewN] at hzw1); have hcw1k0 := fun o => hb1.cell (p := ⟨w.heap.size, o, none⟩) (by first | omega | (simp only [sz_alloc, sz_set, sz_drew, sz_drewN]; omega) | (simp only [sz_alloc, sz_set, sz_drew, sz_drewN] at *; omega)); have hfw1k0 := fun o => hb1.frozen (p := ⟨w.heap.size, o, none⟩) (by first | omega | (simp only [sz_alloc, sz_set, sz_drew, sz_drewN]; omega) | (simp only [sz_alloc, sz_set, sz_drew, sz_drewN] at *; omega)); have hlw1k0 : w.heap.size < w1.heap.size := (by first | omega | (simp only [sz_alloc, sz_set, sz_drew, sz_drewN]; omega) | (simp only [sz_alloc, sz_set, sz_drew, sz_drewN] at *; omega)); have hcw1k1 := fun o => hb1.cell (p := ⟨w.heap.size + 1, o, none⟩) (by first | omega | (simp only [sz_alloc, sz_set, sz_drew, sz_drewN]; omega) | (simp only [sz_alloc, sz_set, sz_drew, sz_drewN] at *; omega)); have hfw1k1 := fun o => hb1.frozen (p := ⟨w.heap.size + 1, o, none⟩) (by first | omega | (simp only [sz_alloc, sz_set, sz_drew, sz_drewN]; omega) | (simp only [sz_alloc, sz_set, sz_drew, sz_drewN] at *; omega)); have hlw1k1 : w.heap.size + 1 < w1.heap.size := (by first | omega | (simp only [sz_alloc, sz_set, sz_drew, sz_drewN]; omega) | (simp only [sz_alloc, sz_set, sz_drew, sz_drewN] at *; omega))
      go_wp2
      exact bodyPost_ret (v := .tuple #[.agg #[.int .i64 0, .slice none 0 0, .slice none 0 0], .int .i64 3]) (by simp [results, Try.results14, go_sem, hcw1k1]) rfl
        ⟨_, [], rfl, ⟨none, 0, none, 0, [], [], rfl, .inl ⟨rfl, rfl⟩, .inl ⟨rfl, rfl⟩, rfl⟩, ⟨List.nodup_nil, fun g hg => by simp at hg⟩, (by repeat (first | exact Below.refl _ _ | exact Since.out (by assumption) | refine Below.alloc ?_ (by first | omega | (simp only [sz_alloc, sz_set, sz_drew, sz_drewN]; omega) | (simp only [sz_alloc, sz_set, sz_drew, sz_drewN] at *; omega)) _ | refine Below.setCell ?_ (by first | omega | (simp only [sz_alloc, sz_set, sz_drew, sz_drewN]; omega) | (simp only [sz_alloc, sz_set, sz_drew, sz_drewN] at *; omega)) _ | refine Below.drew ?_ | refine below_drewN_ ?_ _))⟩
  · have hok := Bool.not_eq_true _ |>.mp hok
    have hC : Hid (T.wandC = ⟨0, [], []⟩ ∧ T.wandCode = 1) := Lib.hid (by unfold Tn.wandC Tn.wandCode; simp [hok])
    rw [hC.out.1, hC.out.2]
    have HO := Lib.hid hok
    clear hok
    go_enter Try.func14, Try.ntmps14
    go_wp2_with fail
    refine (validTurner_impl _ T _ ⟨A1, c1, rfl, r1.up (by repeat (first | exact Below.refl _ _ | refine Below.alloc ?_ (by first | omega | (simp only [sz_alloc, sz_set, sz_drew, sz_drewN]; omega) | (simp only [sz_alloc, sz_set, sz_drew, sz_drewN] at *; omega)) _ | refine Below.setCell ?_ (by first | omega | (simp only [sz_alloc, sz_set, sz_drew, sz_drewN]; omega) | (simp only [sz_alloc, sz_set, sz_drew, sz_drewN] at *; omega)) _ | refine Below.drew ?_ | refine below_drewN_ ?_ _))⟩ hn).mono ?_
    rintro e w1 ⟨rfl, hb1⟩
    rw [HO.out]
    have HBw1 : Since w w1 := ⟨below_cat (by repeat (first | exact Below.refl _ _ | exact Since.out (by assumption) | refine Below.alloc ?_ (by first | omega | (simp only [sz_alloc, sz_set, sz_drew, sz_drewN]; omega) | (simp only [sz_alloc, sz_set, sz_drew, sz_drewN] at *; omega)) _ | refine Below.setCell ?_ (by first | omega | (simp only [sz_alloc, sz_set, sz_drew, sz_drewN]; omega) | (simp only [sz_alloc, sz_set, sz_drew, sz_drewN] at *; omega)) _ | refine Below.drew ?_ | refine below_drewN_ ?_ _)) hb1 (by first | omega | (simp only [sz_alloc, sz_set, sz_drew, sz_drewN]; omega) | (simp only [sz_alloc, sz_set, sz_drew, sz_drewN] at *; omega))⟩; have hzw1 := hb1.size; (try simp only [sz_alloc, sz_set, sz_drew, sz_drewN] at hzw1); have hcw1k0 := fun o => hb1.cell (p := ⟨w.heap.size, o, none⟩) (by first | omega | (simp only [sz_alloc, sz_set, sz_drew, sz_drewN]; omega) | (simp only [sz_alloc, sz_set, sz_drew, sz_drewN] at *; omega)); have hfw1k0 := fun o => hb1.frozen (p := ⟨w.heap.size, o, none⟩) (by first | omega | (simp only [sz_alloc, sz_set, sz_drew, sz_drewN]; omega) | (simp only [sz_alloc, sz_set, sz_drew, sz_drewN] at *; omega)); have hlw1k0 : w.heap.size < w1.heap.size := (by first | omega | (simp only [sz_alloc, sz_set, sz_drew, sz_drewN]; omega) | (simp only [sz_alloc, sz_set, sz_drew, sz_drewN] at *; omega)); have hcw1k1 := fun o => hb1.cell (p := ⟨w.heap.size + 1, o, none⟩) (by first | omega | (simp only [sz_alloc, sz_set, sz_drew, sz_drewN]; omega) | (simp only [sz_alloc, sz_set, sz_drew, sz_drewN] at *; omega)); have hfw1k1 := fun o => hb1.frozen (p := ⟨w.heap.size + 1, o, none⟩) (by first | omega | (simp only [sz_alloc, sz_set, sz_drew, sz_drewN]; omega) | (simp only [sz_alloc, sz_set, sz_drew, sz_drewN] at *; omega)); have hlw1k1 : w.heap.size + 1 < w1.heap.size := (by first | omega | (simp only [sz_alloc, sz_set, sz_drew, sz_drewN]; omega) | (simp only [sz_alloc, sz_set, sz_drew, sz_drewN] at *; omega))
    go_wp2
    exact bodyPost_ret (v := .tuple #[.agg #[.int .i64 0, .slice none 0 0, .slice none 0 0], .int .i64 1]) (by simp [results, Try.results14, go_sem, hcw1k1]) rfl
      ⟨_, [], rfl, ⟨none, 0, none, 0, [], [], rfl, .inl ⟨rfl, rfl⟩, .inl ⟨rfl, rfl⟩, rfl⟩, ⟨List.nodup_nil, fun g hg => by simp at hg⟩, (by repeat (first | exact Below.refl _ _ | exact Since.out (by assumption) | refine Below.alloc ?_ (by first | omega | (simp only [sz_alloc, sz_set, sz_drew, sz_drewN]; omega) | (simp only [sz_alloc, sz_set, sz_drew, sz_drewN] at *; omega)) _ | refine Below.setCell ?_ (by first | omega | (simp only [sz_alloc, sz_set, sz_drew, sz_drewN]; omega) | (simp only [sz_alloc, sz_set, sz_drew, sz_drewN] at *; omega)) _ | refine Below.drew ?_ | refine below_drewN_ ?_ _))⟩
end Go.Proofs.Ytepjgaakihhngaa
