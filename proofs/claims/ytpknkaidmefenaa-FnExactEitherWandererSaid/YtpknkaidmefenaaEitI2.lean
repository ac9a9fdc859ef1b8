/-
  Contract of the program's EitherWanderer where it makes a machine. Conditions: those in each statement.
-/
import Derived.Test.YtpknkaidmefenaaEitI
import Derived.Test.YtpknkaidmefenaaVWan
import Derived.Test.YtpknkaidmefenaaTail
import Derived.Deep.RegionHeld3
set_option linter.unusedVariables false
set_option linter.unusedSimpArgs false
set_option maxRecDepth 100000
set_option maxHeartbeats 1000000
namespace Go.Proofs.Ytpknkaidmefenaa
open Go.RowKit

set_option maxHeartbeats 8000000 in
theorem eitherWanderer_impl_yes (A1 : Option Addr) (c1 : Nat) (A2 : Option Addr) (c2 : Nat) (T : Wn) (D1 : Option Addr) (d1 : Nat) (D2 : Option Addr) (d2 : Nat) (U : Wn) (w : World) (r1 : RdS w w.heap.size A1 T.starts) (r2 : RdS w w.heap.size A2 T.moves) (r3 : RdS w w.heap.size D1 U.starts) (r4 : RdS w w.heap.size D2 U.moves) (n1 : T.tot ≤ 1048576) (n2 : U.tot ≤ 1048576) (hT : T.okB = true) (hU : U.okB = true) (hL : T.letters = U.letters) (h5 : T.moves.length + U.moves.length ≤ 5) :
    Calls Try.prog 13 #[.agg #[.int .i64 T.letters, .slice A1 T.starts.length c1, .slice A2 T.moves.length c2], .agg #[.int .i64 U.letters, .slice D1 U.starts.length d1, .slice D2 U.moves.length d2]] w (RetWnC (T.eitherW U) 0 w) := by
  have OT := Wn.ok_of hT
  have OU := Wn.ok_of hU
  have HOT := Lib.hid OT
  have HOU := Lib.hid OU
  have hts := OT.sl
  have hus := OU.sl
  have ht1 := OT.n1
  have hu1 := OU.n1
  have ht3 := OT.l3
  have HT := Lib.hid hT
  have HU := Lib.hid hU
  have q : (T.letters != U.letters) = false := by simp [hL]
  have h5' : ((T.moves.length : Int) + (U.moves.length : Int)) ≤ 5 := by omega
  have hw5 : wrap64 ((T.moves.length : Int) + (U.moves.length : Int)) = (T.moves.length : Int) + (U.moves.length : Int) := by unfold wrap64; omega
  have hm5 : T.moves.length ≤ 4 := by omega
  have hu5 : U.moves.length ≤ 4 := by omega
  have HL := Lib.hid hL
  clear hT hU hL OT OU
  go_enter Try.func13, Try.ntmps13
  go_wp2_with fail
  refine (validWanderer_impl _ T _ ⟨A1, c1, A2, c2, rfl, r1.up (by repeat (first | exact Below.refl _ _ | refine Below.alloc ?_ (by first | omega | (simp only [sz_alloc, sz_set, sz_drew, sz_drewN]; omega) | (simp only [sz_alloc, sz_set, sz_drew, sz_drewN] at *; omega)) _ | refine Below.setCell ?_ (by first | omega | (simp only [sz_alloc, sz_set, sz_drew, sz_drewN]; omega) | (simp only [sz_alloc, sz_set, sz_drew, sz_drewN] at *; omega)) _ | refine Below.drew ?_ | refine below_drewN_ ?_ _)), r2.up (by repeat (first | exact Below.refl _ _ | refine Below.alloc ?_ (by first | omega | (simp only [sz_alloc, sz_set, sz_drew, sz_drewN]; omega) | (simp only [sz_alloc, sz_set, sz_drew, sz_drewN] at *; omega)) _ | refine Below.setCell ?_ (by first | omega | (simp only [sz_alloc, sz_set, sz_drew, sz_drewN]; omega) | (simp only [sz_alloc, sz_set, sz_drew, sz_drewN] at *; omega)) _ | refine Below.drew ?_ | refine below_drewN_ ?_ _))⟩ n1).mono ?_
  rintro e w1 ⟨rfl, hb1⟩
  rw [HT.out]
  have HBw1 : Since w w1 := ⟨below_cat (by repeat (first | exact Below.refl _ _ | exact Since.out (by assumption) | refine Below.alloc ?_ (by first | omega | (simp only [sz_alloc, sz_set, sz_drew, sz_drewN]; omega) | (simp only [sz_alloc, sz_set, sz_drew, sz_drewN] at *; omega)) _ | refine Below.setCell ?_ (by first | omega | (simp only [sz_alloc, sz_set, sz_drew, sz_drewN]; omega) | (simp only [sz_alloc, sz_set, sz_drew, sz_drewN] at *; omega)) _ | refine Below.drew ?_ | refine below_drewN_ ?_ _)) hb1 (by first | omega | (simp only [sz_alloc, sz_set, sz_drew, sz_drewN]; omega) | (simp only [sz_alloc, sz_set, sz_drew, sz_drewN] at *; omega))⟩; have hzw1 := hb1.size; (try simp only [sz_alloc, sz_set, sz_drew, sz_drewN] at hzw1); have hcw1k0 := fun o => hb1.cell (p := ⟨w.heap.size, o, none⟩) (by first | omega | (simp only [sz_alloc, sz_set, sz_drew, sz_drewN]; omega) | (simp only [sz_alloc, sz_set, sz_drew, sz_drewN] at *; omega)); have hfw1k0 := fun o => hb1.frozen (p := ⟨w.heap.size, o, none⟩) (by first | omega | (simp only [sz_alloc, sz_set, sz_drew, sz_drewN]; omega) | (simp only [sz_alloc, sz_set, sz_drew, sz_drewN] at *; omega)); have hlw1k0 : w.heap.size < w1.heap.size := (by first | omega | (simp only [sz_alloc, sz_set, sz_drew, sz_drewN]; omega) | (simp only [sz_alloc, sz_set, sz_drew, sz_drewN] at *; omega)); have hcw1k1 := fun o => hb1.cell (p := ⟨w.heap.size + 1, o, none⟩) (by first | omega | (simp only [sz_alloc, sz_set, sz_drew, sz_drewN]; omega) | (simp only [sz_alloc, sz_set, sz_drew, sz_drewN] at *; omega)); have hfw1k1 := fun o => hb1.frozen (p := ⟨w.heap.size + 1, o, none⟩) (by first | omega | (simp only [sz_alloc, sz_set, sz_drew, sz_drewN]; omega) | (simp only [sz_alloc, sz_set, sz_drew, sz_drewN] at *; omega)); have hlw1k1 : w.heap.size + 1 < w1.heap.size := (by first | omega | (simp only [sz_alloc, sz_set, sz_drew, sz_drewN]; omega) | (simp only [sz_alloc, sz_set, sz_drew, sz_drewN] at *; omega)); have hcw1k2 := fun o => hb1.cell (p := ⟨w.heap.size + 1 + 1, o, none⟩) (by first | omega | (simp only [sz_alloc, sz_set, sz_drew, sz_drewN]; omega) | (simp only [sz_alloc, sz_set, sz_drew, sz_drewN] at *; omega)); have hfw1k2 := fun o => hb1.frozen (p := ⟨w.heap.size + 1 + 1, o, none⟩) (by first | omega | (simp only [sz_alloc, sz_set, sz_drew, sz_drewN]; omega) | (simp only [sz_alloc, sz_set, sz_drew, sz_drewN] at *; omega)); have hlw1k2 : w.heap.size + 1 + 1 < w1.heap.size := (by first | omega | (simp only [sz_alloc, sz_set, sz_drew, sz_drewN]; omega) | (simp only [sz_alloc, sz_set, sz_drew, sz_drewN] at *; omega))
  go_wp2_with fail
  refine (validWanderer_impl _ U _ ⟨D1, d1, D2, d2, rfl, r3.up (by repeat (first | exact Below.refl _ _ | exact Since.out (by assumption) | refine Below.alloc ?_ (by first | omega | (simp only [sz_alloc, sz_set, sz_drew, sz_drewN]; omega) | (simp only [sz_alloc, sz_set, sz_drew, sz_drewN] at *; omega)) _ | refine Below.setCell ?_ (by first | omega | (simp only [sz_alloc, sz_set, sz_drew, sz_drewN]; omega) | (simp only [sz_alloc, sz_set, sz_drew, sz_drewN] at *; omega)) _ | refine Below.drew ?_ | refine below_drewN_ ?_ _)), r4.up (by repeat (first | exact Below.refl _ _ | exact Since.out (by assumption) | refine Below.alloc ?_ (by first | omega | (simp only [sz_alloc, sz_set, sz_drew, sz_drewN]; omega) | (simp only [sz_alloc, sz_set, sz_drew, sz_drewN] at *; omega)) _ | refine Below.setCell ?_ (by first | omega | (simp only [sz_alloc, sz_set, sz_drew, sz_drewN]; omega) | (simp only [sz_alloc, sz_set, sz_drew, sz_drewN] at *; omega)) _ | refine Below.drew ?_ | refine below_drewN_ ?_ _))⟩ n2).mono ?_
  rintro e w2 ⟨rfl, hb2⟩
  rw [HU.out]
  have HBw2 : Since w w2 := ⟨below_cat (by repeat (first | exact Below.refl _ _ | exact Since.out (by assumption) | refine Below.alloc ?_ (by first | omega | (simp only [sz_alloc, sz_set, sz_drew, sz_drewN]; omega) | (simp only [sz_alloc, sz_set, sz_drew, sz_drewN] at *; omega)) _ | refine Below.setCell ?_ (by first | omega | (simp only [sz_alloc, sz_set, sz_drew, sz_drewN]; omega) | (simp only [sz_alloc, sz_set, sz_drew, sz_drewN] at *; omega)) _ | refine Below.drew ?_ | refine below_drewN_ ?_ _)) hb2 (by first | omega | (simp only [sz_alloc, sz_set, sz_drew, sz_drewN]; omega) | (simp only [sz_alloc, sz_set, sz_drew, sz_drewN] at *; omega))⟩; have hzw2 := hb2.size; (try simp only [sz_alloc, sz_set, sz_drew, sz_drewN] at hzw2); have hcw2k0 := fun o => hb2.cell (p := ⟨w.heap.size, o, none⟩) (by first | omega | (simp only [sz_alloc, sz_set, sz_drew, sz_drewN]; omega) | (simp only [sz_alloc, sz_set, sz_drew, sz_drewN] at *; omega)); have hfw2k0 := fun o => hb2.frozen (p := ⟨w.heap.size, o, none⟩) (by first | omega | (simp only [sz_alloc, sz_set, sz_drew, sz_drewN]; omega) | (simp only [sz_alloc, sz_set, sz_drew, sz_drewN] at *; omega)); have hlw2k0 : w.heap.size < w2.heap.size := (by first | omega | (simp only [sz_alloc, sz_set, sz_drew, sz_drewN]; omega) | (simp only [sz_alloc, sz_set, sz_drew, sz_drewN] at *; omega)); have hcw2k1 := fun o => hb2.cell (p := ⟨w.heap.size + 1, o, none⟩) (by first | omega | (simp only [sz_alloc, sz_set, sz_drew, sz_drewN]; omega) | (simp only [sz_alloc, sz_set, sz_drew, sz_drewN] at *; omega)); have hfw2k1 := fun o => hb2.frozen (p := ⟨w.heap.size + 1, o, none⟩) (by first | omega | (simp only [sz_alloc, sz_set, sz_drew, sz_drewN]; omega) | (simp only [sz_alloc, sz_set, sz_drew, sz_drewN] at *; omega)); have hlw2k1 : w.heap.size + 1 < w2.heap.size := (by first | omega | (simp only [sz_alloc, sz_set, sz_drew, sz_drewN]; omega) | (simp only [sz_alloc, sz_set, sz_drew, sz_drewN] at *; omega)); have hcw2k2 := fun o => hb2.cell (p := ⟨w.heap.size + 1 + 1, o, none⟩) (by first | omega | (simp only [sz_alloc, sz_set, sz_drew, sz_drewN]; omega) | (simp only [sz_alloc, sz_set, sz_drew, sz_drewN] at *; omega)); have hfw2k2 := fun o => hb2.frozen (p := ⟨w.heap.size + 1 + 1, o, none⟩) (by first | omega | (simp only [sz_alloc, sz_set, sz_drew, sz_drewN]; omega) | (simp only [sz_alloc, sz_set, sz_drew, sz_drewN] at *; omega)); have hlw2k2 : w.heap.size + 1 + 1 < w2.heap.size := (by first | omega | (simp only [sz_alloc, sz_set, sz_drew, sz_drewN]; omega) | (simp only [sz_alloc, sz_set, sz_drew, sz_drewN] at *; omega))
  go_wp2
  go_cut [6] (fun s6 wx => ∃ (g2 : Nat) (D : Option Addr) (d : Nat), s6 = .pointer (some ⟨g2, 0, none⟩) ∧ Hid (EitB wx w2.heap.size g2 T.letters D T.starts.length d T.starts none 0 0 [] []) ∧ Since w2 wx)
  case first =>
    go_region_held3 (fun w' => w'.cell? ⟨w.heap.size, 0, none⟩ = some (.int .i64 T.letters) ∧ w'.cell? ⟨w.heap.size, 1, none⟩ = some (.slice A1 T.starts.length c1)) (first | (go_keep; done) | (and_intros <;> go_simp))
      ((go_at_call 38; refine (cloneInts A1 T.starts c1 _ (r1.up (by repeat (first | exact Below.refl _ _ | exact Since.out (by assumption) | refine Below.alloc ?_ (by first | omega | (simp only [sz_alloc, sz_set, sz_drew, sz_drewN]; omega) | (simp only [sz_alloc, sz_set, sz_drew, sz_drewN] at *; omega)) _ | refine Below.setCell ?_ (by first | omega | (simp only [sz_alloc, sz_set, sz_drew, sz_drewN]; omega) | (simp only [sz_alloc, sz_set, sz_drew, sz_drewN] at *; omega)) _ | refine Below.drew ?_ | refine below_drewN_ ?_ _))) (by omega)).mono ?_; rintro e w3 ⟨D, d, rfl, hacc, hb3⟩; (try simp only [sz_alloc, sz_set, sz_drew, sz_drewN] at hacc); have HLT := Lib.hid (fun a (ha : D = some a) => hacc.lt a ha); have HA := Lib.hid (hacc.low (B' := w2.heap.size) (by omega)); clear hacc; have HQ3 : Since w2 w3 := ⟨below_cat (by repeat (first | exact Below.refl _ _ | exact Since.out (by assumption) | refine Below.alloc ?_ (by first | omega | (simp only [sz_alloc, sz_set, sz_drew, sz_drewN]; omega) | (simp only [sz_alloc, sz_set, sz_drew, sz_drewN] at *; omega)) _ | refine Below.setCell ?_ (by first | omega | (simp only [sz_alloc, sz_set, sz_drew, sz_drewN]; omega) | (simp only [sz_alloc, sz_set, sz_drew, sz_drewN] at *; omega)) _ | refine Below.drew ?_ | refine below_drewN_ ?_ _)) hb3 (by first | omega | (simp only [sz_alloc, sz_set, sz_drew, sz_drewN]; omega) | (simp only [sz_alloc, sz_set, sz_drew, sz_drewN] at *; omega))⟩; have HBw3 : Since w w3 := ⟨below_cat (by repeat (first | exact Below.refl _ _ | exact Since.out (by assumption) | refine Below.alloc ?_ (by first | omega | (simp only [sz_alloc, sz_set, sz_drew, sz_drewN]; omega) | (simp only [sz_alloc, sz_set, sz_drew, sz_drewN] at *; omega)) _ | refine Below.setCell ?_ (by first | omega | (simp only [sz_alloc, sz_set, sz_drew, sz_drewN]; omega) | (simp only [sz_alloc, sz_set, sz_drew, sz_drewN] at *; omega)) _ | refine Below.drew ?_ | refine below_drewN_ ?_ _)) hb3 (by first | omega | (simp only [sz_alloc, sz_set, sz_drew, sz_drewN]; omega) | (simp only [sz_alloc, sz_set, sz_drew, sz_drewN] at *; omega))⟩; have hzw3 := hb3.size; (try simp only [sz_alloc, sz_set, sz_drew, sz_drewN] at hzw3); have hcw3k0 := fun o => hb3.cell (p := ⟨w.heap.size, o, none⟩) (by first | omega | (simp only [sz_alloc, sz_set, sz_drew, sz_drewN]; omega) | (simp only [sz_alloc, sz_set, sz_drew, sz_drewN] at *; omega)); have hfw3k0 := fun o => hb3.frozen (p := ⟨w.heap.size, o, none⟩) (by first | omega | (simp only [sz_alloc, sz_set, sz_drew, sz_drewN]; omega) | (simp only [sz_alloc, sz_set, sz_drew, sz_drewN] at *; omega)); have hlw3k0 : w.heap.size < w3.heap.size := (by first | omega | (simp only [sz_alloc, sz_set, sz_drew, sz_drewN]; omega) | (simp only [sz_alloc, sz_set, sz_drew, sz_drewN] at *; omega)); have hcw3k1 := fun o => hb3.cell (p := ⟨w.heap.size + 1, o, none⟩) (by first | omega | (simp only [sz_alloc, sz_set, sz_drew, sz_drewN]; omega) | (simp only [sz_alloc, sz_set, sz_drew, sz_drewN] at *; omega)); have hfw3k1 := fun o => hb3.frozen (p := ⟨w.heap.size + 1, o, none⟩) (by first | omega | (simp only [sz_alloc, sz_set, sz_drew, sz_drewN]; omega) | (simp only [sz_alloc, sz_set, sz_drew, sz_drewN] at *; omega)); have hlw3k1 : w.heap.size + 1 < w3.heap.size := (by first | omega | (simp only [sz_alloc, sz_set, sz_drew, sz_drewN]; omega) | (simp only [sz_alloc, sz_set, sz_drew, sz_drewN] at *; omega)); have hcw3k2 := fun o => hb3.cell (p := ⟨w.heap.size + 1 + 1, o, none⟩) (by first | omega | (simp only [sz_alloc, sz_set, sz_drew, sz_drewN]; omega) | (simp only [sz_alloc, sz_set, sz_drew, sz_drewN] at *; omega)); have hfw3k2 := fun o => hb3.frozen (p := ⟨w.heap.size + 1 + 1, o, none⟩) (by first | omega | (simp only [sz_alloc, sz_set, sz_drew, sz_drewN]; omega) | (simp only [sz_alloc, sz_set, sz_drew, sz_drewN] at *; omega)); have hlw3k2 : w.heap.size + 1 + 1 < w3.heap.size := (by first | omega | (simp only [sz_alloc, sz_set, sz_drew, sz_drewN]; omega) | (simp only [sz_alloc, sz_set, sz_drew, sz_drewN] at *; omega)); (try (have hcw3a := fun o => hb3.cell (p := ⟨w2.heap.size, o, none⟩) (by first | omega | (simp only [sz_alloc, sz_set, sz_drew, sz_drewN]; omega) | (simp only [sz_alloc, sz_set, sz_drew, sz_drewN] at *; omega)); have hfw3a := fun o => hb3.frozen (p := ⟨w2.heap.size, o, none⟩) (by first | omega | (simp only [sz_alloc, sz_set, sz_drew, sz_drewN]; omega) | (simp only [sz_alloc, sz_set, sz_drew, sz_drewN] at *; omega)); have hlw3a : w2.heap.size < _ := Nat.lt_of_lt_of_le (m := _) (by first | omega | (simp only [sz_alloc, sz_set, sz_drew, sz_drewN]; omega) | (simp only [sz_alloc, sz_set, sz_drew, sz_drewN] at *; omega)) hb3.size))))
    all_goals
      go_wp2_with fail
      go_meet
      refine ⟨_, D, d, rfl, Lib.hid ⟨(by repeat (first | (with_reducible exact new_block rfl) | ((with_reducible refine new_block ?_); (focus (simp only [sz_alloc, sz_set, sz_drew, sz_drewN]; done))) | ((with_reducible refine blk_fill3 (cur := #[.int .i64 0 , .slice none 0 0 , .slice none 0 0]) ?_ ?_); rotate_left; (focus (rfl; done))) | ((with_reducible refine blk_far ?_ ?_ _); rotate_left; (focus ((try simp only [ne_eq]); omega; done))) | ((with_reducible refine alloc_block ?_ ?_); rotate_left; (focus (first | omega | (simp only [sz_alloc, sz_set, sz_drew, sz_drewN]; omega) | (simp only [sz_alloc, sz_set, sz_drew, sz_drewN] at *; omega); done))) | rw [heap_drew] | ((with_reducible refine (Below.block hb3 _ ?_).trans ?_); (focus (first | omega | (simp only [sz_alloc, sz_set, sz_drew, sz_drewN]; omega) | (simp only [sz_alloc, sz_set, sz_drew, sz_drewN] at *; omega); done))))), ?_, Acc.nil_ _ _ _, (fun a ha e => by have := HLT.out a ha; (try simp only at e); omega), (fun a ha => by cases ha), (by simp), (fun a a' ha ha' => by cases ha'), (fun a ha => by simp), by omega⟩, ⟨(by repeat (first | exact Below.refl _ _ | exact Since.out (by assumption) | refine Below.alloc ?_ (by first | omega | (simp only [sz_alloc, sz_set, sz_drew, sz_drewN]; omega) | (simp only [sz_alloc, sz_set, sz_drew, sz_drewN] at *; omega)) _ | refine Below.setCell ?_ (by first | omega | (simp only [sz_alloc, sz_set, sz_drew, sz_drewN]; omega) | (simp only [sz_alloc, sz_set, sz_drew, sz_drewN] at *; omega)) _ | refine Below.drew ?_ | refine below_drewN_ ?_ _))⟩⟩
      repeat (first | exact HA.out | with_reducible refine Acc.setCell ?_ (fun a ha e => by have := HLT.out a ha; simp only at e; omega) (by simp) _ | with_reducible refine Acc.alloc ?_ _ | with_reducible refine Acc.drew ?_)
  case rest =>
    obtain ⟨g2, D, d, rfl, HQ, hs0⟩ := hcut
    obtain ⟨w3, rfl⟩ : ∃ x, x = wc := ⟨_, rfl⟩
    have hg3 : g2 < w3.heap.size := HQ.out.lt
    have hg2 : w2.heap.size ≤ g2 := HQ.out.ge
    have hlw : w.heap.size + 3 ≤ w2.heap.size := by omega
    have e1 : w2.cell? ⟨w.heap.size + 1, 1, none⟩ = some (.slice D1 U.starts.length d1) := by go_simp
    have e2 : w2.cell? ⟨w.heap.size + 1, 2, none⟩ = some (.slice D2 U.moves.length d2) := by go_simp
    have e3 : w2.cell? ⟨w.heap.size, 2, none⟩ = some (.slice A2 T.moves.length c2) := by go_simp
    have e5 : w2.heap[w.heap.size + 2]? = some (.cells #[.int .i64 0, .slice none 0 0, .slice none 0 0] 40 (0, 0)) := (hb2.block _ (by omega)).trans ((hb1.block _ (by simp)).trans (new_block (by simp)))
    have t2 : w3.cell? ⟨w.heap.size, 2, none⟩ = some (.slice A2 T.moves.length c2) := (hs0.out.cell (p := ⟨w.heap.size, 2, none⟩) (by simp only; omega)).trans e3
    have hlo : w.heap.size + 3 ≤ w3.heap.size := by have := hs0.out.size; omega
    have E2 := Lib.hid (And.intro e1 (And.intro e2 e5))
    have E3 := Lib.hid e3
    clear e1 e2 e3 e5
    go_wp2
    go_loopw [54] (fun i wr => ∃ (k : Nat) (A : Option Addr) (c : Nat) (bs : List Nat), k ≤ T.moves.length ∧ i = .int .i64 k ∧ Hid (EitB wr w2.heap.size g2 T.letters D T.starts.length d T.starts A k c (T.moves.take k) bs) ∧ Since w2 wr) (fun i _ => T.moves.length - (intOf i).toNat)
    case atStart => exact ⟨0, none, 0, [], Nat.zero_le _, rfl, HQ, hs0⟩
    case round =>
      obtain ⟨k, A, c, bs, hk, rfl, H, hs⟩ := hrel
      obtain ⟨wo, rfl⟩ : ∃ wo, wo = wr := ⟨_, rfl⟩
      have hzo := hs.out.size
      have hgo : g2 < wo.heap.size := H.out.lt
      by_cases hlt : k < T.moves.length
      · obtain ⟨x, hx⟩ := get_some hlt
        obtain ⟨b', o, P, p, rfl, hbb, cx, hxl, rx⟩ := ((r2.up HBw2.out).up hs.out).row hx
        have hxm := List.mem_of_getElem? hx
        have hx5 : x.length ≤ 5 := by have := HOT.out.row x hxm; omega
        have HXX : Hid (∀ y ∈ x, y.length ≤ 1000) := Lib.hid fun y hy => by have := (HOT.out.cell x hxm y hy).1; omega
        have HTK : Hid (T.moves.take (k + 1) = T.moves.take k ++ [x]) := Lib.hid (take_snoc hx)
        have i2 : (0 : Int) ≤ (k : Int) := by omega
        have i3 : (k : Int) < (T.moves.length : Int) := by omega
        have m1 : wo.cell? ⟨g2, 2, none⟩ = some (.slice A k c) := cell_of_row wo _ 2 _ _ (0, 0) H.out.blk
        have f1 : wo.frozen? ⟨g2, 2, none⟩ = false := blk_free H.out.blk
        clear hx hxm
        go_wp2
        refine Held.begin (fun w' => w'.cell? ⟨g2, 2, none⟩ = some (.slice A k c)) 6 (by kernel_rfl) (by (try dsimp only); (first | (go_keep; done) | (and_intros <;> go_simp))) (fun hHeld => ?_); (first | (refine Held.take (i := 0) (v := undef) (by (simp only [List.getElem?_toArray, List.getElem?_cons_succ, List.getElem?_cons_zero]); exact rfl) (by decide) (by kernel_rfl) (by kernel_rfl) (by kernel_rfl) (by kernel_rfl) (by exact fun _ _ _ h => h) (by exact Or.inr ⟨by rfl, rfl⟩) (by assumption) ?_) | (refine Held.take (i := 0) (v := ?_) (by (simp only [List.getElem?_toArray, List.getElem?_cons_succ, List.getElem?_cons_zero]); exact rfl) (by decide) (by kernel_rfl) (by kernel_rfl) (by kernel_rfl) (by kernel_rfl) (by exact fun _ _ _ h => h) (by refine Or.inl ⟨by rfl, ?_⟩; intro wS hSw; (try dsimp only at hSw); go_simp; (try with_reducible rfl)) (by assumption) ?_)); (try simp only [Act.put, List.setIfInBounds_toArray, List.set_cons_zero, List.set_cons_succ]); (first | (refine Held.take (i := 1) (v := undef) (by (simp only [List.getElem?_toArray, List.getElem?_cons_succ, List.getElem?_cons_zero]); exact rfl) (by decide) (by kernel_rfl) (by kernel_rfl) (by kernel_rfl) (by kernel_rfl) (by exact fun _ _ _ h => h) (by exact Or.inr ⟨by rfl, rfl⟩) (by assumption) ?_) | (refine Held.take (i := 1) (v := ?_) (by (simp only [List.getElem?_toArray, List.getElem?_cons_succ, List.getElem?_cons_zero]); exact rfl) (by decide) (by kernel_rfl) (by kernel_rfl) (by kernel_rfl) (by kernel_rfl) (by exact fun _ _ _ h => h) (by refine Or.inl ⟨by rfl, ?_⟩; intro wS hSw; (try dsimp only at hSw); go_simp; (try with_reducible rfl)) (by assumption) ?_)); (try simp only [Act.put, List.setIfInBounds_toArray, List.set_cons_zero, List.set_cons_succ]); (first | (refine Held.take (i := 2) (v := undef) (by (simp only [List.getElem?_toArray, List.getElem?_cons_succ, List.getElem?_cons_zero]); exact rfl) (by decide) (by kernel_rfl) (by kernel_rfl) (by kernel_rfl) (by kernel_rfl) (by exact fun _ _ _ h => h) (by exact Or.inr ⟨by rfl, rfl⟩) (by assumption) ?_) | (refine Held.take (i := 2) (v := ?_) (by (simp only [List.getElem?_toArray, List.getElem?_cons_succ, List.getElem?_cons_zero]); exact rfl) (by decide) (by kernel_rfl) (by kernel_rfl) (by kernel_rfl) (by kernel_rfl) (by exact fun _ _ _ h => h) (by refine Or.inl ⟨by rfl, ?_⟩; intro wS hSw; (try dsimp only at hSw); go_simp; (try with_reducible rfl)) (by assumption) ?_)); (try simp only [Act.put, List.setIfInBounds_toArray, List.set_cons_zero, List.set_cons_succ]); refine Held.one (i := 3) (by (simp only [List.getElem?_toArray, List.getElem?_cons_succ, List.getElem?_cons_zero]); exact rfl) (by kernel_rfl) (fun K hK => ?_); (go_simp; refine (ownLists P x p _ (rx.up (by repeat (first | exact Below.refl _ _ | refine Below.alloc ?_ (by first | omega | (simp only [sz_alloc, sz_set, sz_drew, sz_drewN]; omega) | (simp only [sz_alloc, sz_set, sz_drew, sz_drewN] at *; omega)) _ | refine Below.setCell ?_ (by first | omega | (simp only [sz_alloc, sz_set, sz_drew, sz_drewN]; omega) | (simp only [sz_alloc, sz_set, sz_drew, sz_drewN] at *; omega)) _ | refine Below.drew ?_ | refine below_drewN_ ?_ _))) (by omega) HXX.out).mono ?_; rintro e w5 ⟨N, nc, bN, rfl, haccN, hb5⟩; (try simp only [sz_drew] at haccN hb5); have hz5 := hb5.size; (try simp only [sz_drew] at hz5); have HN := Lib.hid haccN; clear haccN; have HS5 : Since wo w5 := ⟨Below.trans (Below.refl _ _).drew hb5⟩; have hcg := fun o => hb5.cell (p := ⟨g2, o, none⟩) (by simp only; omega); have hfg := fun o => hb5.frozen (p := ⟨g2, o, none⟩) (by simp only; omega); have hg5 : g2 < w5.heap.size := by omega; go_wp2_with fail); refine hK.out _ _ (by (try dsimp only); (first | (go_keep; done) | (and_intros <;> go_simp))) (fun hHeld => ?_); clear hK K; (try simp only [Act.put, List.setIfInBounds_toArray, List.set_cons_zero, List.set_cons_succ]); refine Held.one (i := 4) (by (simp only [List.getElem?_toArray, List.getElem?_cons_succ, List.getElem?_cons_zero]); exact rfl) (by kernel_rfl) (fun K hK => ?_); go_simp; refine hK.out _ _ (by (try dsimp only); (first | (go_keep; done) | (and_intros <;> go_simp))) (fun hHeld => ?_); clear hK K; (try simp only [Act.put, List.setIfInBounds_toArray, List.set_cons_zero, List.set_cons_succ]); refine Held.one (i := 5) (by (simp only [List.getElem?_toArray, List.getElem?_cons_succ, List.getElem?_cons_zero]); exact rfl) (by kernel_rfl) (fun K hK => ?_); (obtain ⟨b2, hy, hf⟩ := (HN.out.alloc (.cells #[.slice N x.length nc] 70)).row (by omega); refine step_push (α := List (List (Int × Int))) _ (by rfl) (.tmp 59) (.tmp 62) 38 (by rfl) w2.heap.size 70 (.slice none 0 0) 24 Try.underlying38 infoMoveSSS rfl A k c _ bs (by rfl) ((H.out.ms.below HS5.out (Nat.le_refl _)).alloc _) w5.heap.size 1 (by rfl) x [.slice N x.length nc] b2 hy (fun j u hu => new_cells (w := w5) rfl j u hu) (fun u hu => by (simp at hu; subst hu; rfl)) ⟨hf.1, fun g hg => ⟨by have := (hf.2 g hg).1; omega, (hf.2 g hg).2⟩⟩ (H.out.ms.apart hf (Nat.le_refl _)) (by omega) (by omega) (by first | omega | (simp only [sz_alloc, sz_set, sz_drew, sz_drewN]; omega) | (simp only [sz_alloc, sz_set, sz_drew, sz_drewN] at *; omega)) ?_; intro F1 f1' w7 hacc hgr hnew; have HPUSH := Lib.hid (H.out.pushM (HS5.out.alloc hz5 _) hacc hgr hnew hf); have hB1 := Lib.hid ((grown_block hgr (by first | omega | (simp only [sz_alloc, sz_set, sz_drew, sz_drewN]; omega) | (simp only [sz_alloc, sz_set, sz_drew, sz_drewN] at *; omega)) H.out.a2).trans (alloc_block (show w5.heap[g2]? = _ from (HS5.out.block _ hgo).trans H.out.blk) hg5)); have HS7 := Lib.hid (Acc.since ((H.out.ms.below HS5.out (Nat.le_refl _)).alloc (.cells #[.slice N x.length nc] 70)) hgr ((hs.out.trans (HS5.out.mono hzo)).alloc (by omega) _) (Nat.le_refl _) (by first | omega | (simp only [sz_alloc, sz_set, sz_drew, sz_drewN]; omega) | (simp only [sz_alloc, sz_set, sz_drew, sz_drewN] at *; omega))); have q0 : w7.cell? ⟨g2, 2, none⟩ = some (.slice A k c) := cell_of_row w7 _ 2 _ _ (0, 0) hB1.out; have f0 : w7.frozen? ⟨g2, 2, none⟩ = false := blk_free hB1.out; clear hacc hgr hnew hy hf); refine hK.out _ _ (by (try dsimp only); (first | (go_keep; done) | (and_intros <;> go_simp))) (fun hHeld => ?_); clear hK K; (try simp only [Act.put, List.setIfInBounds_toArray, List.set_cons_zero, List.set_cons_succ]); refine Held.last (i := 6) (by (simp only [List.getElem?_toArray, List.getElem?_cons_succ, List.getElem?_cons_zero]); exact rfl) (by decide) (by kernel_rfl) (fun K hK => ?_); go_simp; refine hK.out _ _ ?_; clear hK K; (try simp only [Act.put, List.setIfInBounds_toArray, List.set_cons_zero, List.set_cons_succ]); refine Held.last (i := 7) (by (simp only [List.getElem?_toArray, List.getElem?_cons_succ, List.getElem?_cons_zero]); exact rfl) (by decide) (by kernel_rfl) (fun K hK => ?_); go_simp; refine hK.out _ _ ?_; clear hK K; (try simp only [Act.put, List.setIfInBounds_toArray, List.set_cons_zero, List.set_cons_succ]); refine Held.done (by kernel_rfl) ?_ _
        obtain ⟨W, hW⟩ : ∃ W, W = w7.setCell ⟨g2, 2, none⟩ (.slice F1 (k + 1) f1') := ⟨_, rfl⟩
        rw [← hW]
        have H2 : Hid (EitB W w2.heap.size g2 T.letters D T.starts.length d T.starts F1 (k + 1) f1' (T.moves.take (k + 1)) (bs ++ b2)) := Lib.hid (by
          rw [hW, HTK.out]
          exact HPUSH.out)
        have S2 : Since w2 W := ⟨by
          rw [hW]
          exact HS7.out.setCell hg2 _⟩
        clear hW
        go_wp2
        go_roundw
        case rel => exact ⟨k + 1, F1, f1', _, by omega, by go_num, H2, S2⟩
        case measure => simp [intOf]; omega
      · obtain rfl : k = T.moves.length := by omega
        have HM := H.out
        rw [List.take_length] at HM
        have HM := Lib.hid HM
        have t1 : wo.cell? ⟨w.heap.size + 1, 1, none⟩ = some (.slice D1 U.starts.length d1) := (hs.out.cell (p := ⟨w.heap.size + 1, 1, none⟩) (by simp only; omega)).trans E2.out.1
        have t2o : wo.cell? ⟨w.heap.size, 2, none⟩ = some (.slice A2 T.moves.length c2) := (hs.out.cell (p := ⟨w.heap.size, 2, none⟩) (by simp only; omega)).trans E3.out
        have hlo2 : w.heap.size + 3 ≤ wo.heap.size := by omega
        clear H
        go_wp2_with fail
        refine (sizeMoveSS A2 T.moves.length c2 _ (by omega)).mono ?_
        rintro e _ ⟨rfl, rfl⟩
        go_wp2
        go_loopw [72] (fun i wr => ∃ (j : Nat) (D' : Option Addr) (d' : Nat), j ≤ U.starts.length ∧ i = .int .i64 j ∧ Hid (EitB wr w2.heap.size g2 T.letters D' (T.starts.length + j) d' (T.starts ++ (U.starts.take j).map (· + (T.moves.length : Int))) A T.moves.length c T.moves bs) ∧ Since w2 wr) (fun i _ => U.starts.length - (intOf i).toNat)
        case atStart => exact ⟨0, D, d, Nat.zero_le _, rfl, Lib.hid (by simpa using HM.out), hs⟩
        case round =>
          obtain ⟨j, D', d', hj, rfl, H2, hs2⟩ := hrel
          obtain ⟨wp, rfl⟩ : ∃ wp, wp = wr := ⟨_, rfl⟩
          have hzp := hs2.out.size
          have hgp : g2 < wp.heap.size := H2.out.lt
          by_cases hlt2 : j < U.starts.length
          · obtain ⟨x, hx⟩ := get_some hlt2
            obtain ⟨b', o, rfl, hbb, cx⟩ := ((r3.up HBw2.out).up hs2.out).int hx
            have hxb := HOU.out.st x (List.mem_of_getElem? hx)
            have hwx : wrap64 (x + (T.moves.length : Int)) = x + (T.moves.length : Int) := by unfold wrap64; omega
            have HX : Hid (T.starts ++ (U.starts.take (j + 1)).map (· + (T.moves.length : Int)) = (T.starts ++ (U.starts.take j).map (· + (T.moves.length : Int))) ++ [x + (T.moves.length : Int)]) := Lib.hid (by rw [take_snoc hx]; simp)
            have i2 : (0 : Int) ≤ (j : Int) := by omega
            have i3 : (j : Int) < (U.starts.length : Int) := by omega
            have m1 : wp.cell? ⟨g2, 1, none⟩ = some (.slice D' (T.starts.length + j) d') := cell_of_row wp _ 1 _ _ (0, 0) H2.out.blk
            have f1 : wp.frozen? ⟨g2, 1, none⟩ = false := blk_free H2.out.blk
            clear hx hxb
            go_wp2_with (
              at_builtin
              refine wpList_push (α := Int) _ rfl (.tmp 77) (.tmp 81) 33 rfl w2.heap.size 2 (.int .i64 0) 8 Try.underlying33 infoInt64S rfl D' (T.starts.length + j) d' _ [] rfl (H2.out.ss.alloc _) wp.heap.size 1 rfl (x + (T.moves.length : Int)) [.int .i64 (x + (T.moves.length : Int))] [] ⟨rfl, rfl⟩ (new_cells (by first | rfl | simp [sz_set])) (fun u hu => by (simp at hu; subst hu; rfl)) ⟨List.nodup_nil, fun g hg => by simp at hg⟩ (fun g hg => by simp at hg) (by omega) (by omega) (by first | omega | (simp only [sz_alloc, sz_set, sz_drew, sz_drewN]; omega) | (simp only [sz_alloc, sz_set, sz_drew, sz_drewN] at *; omega)) ?_
              intro F1 f1' w7 hacc hgr hnew
              have HPUSH := Lib.hid (H2.out.pushS ((Below.refl _ _).alloc (Nat.le_refl _) _) hacc hgr hnew)
              have hB1 := Lib.hid ((grown_block hgr (by first | omega | (simp only [sz_alloc, sz_set, sz_drew, sz_drewN]; omega) | (simp only [sz_alloc, sz_set, sz_drew, sz_drewN] at *; omega)) H2.out.d2).trans (alloc_block (show wp.heap[g2]? = _ from H2.out.blk) hgp))
              have HS7 := Lib.hid (Acc.since (H2.out.ss.alloc (.cells #[.int .i64 (x + (T.moves.length : Int))] 2)) hgr (hs2.out.alloc (by omega) _) (Nat.le_refl _) (by first | omega | (simp only [sz_alloc, sz_set, sz_drew, sz_drewN]; omega) | (simp only [sz_alloc, sz_set, sz_drew, sz_drewN] at *; omega)))
              have q0 : w7.cell? ⟨g2, 1, none⟩ = some (.slice D' (T.starts.length + j) d') := cell_of_row w7 _ 1 _ _ (0, 0) hB1.out
              have f0 : w7.frozen? ⟨g2, 1, none⟩ = false := blk_free hB1.out
              clear hacc hgr hnew)
            go_roundw
            case rel => exact ⟨j + 1, F1, f1', by omega, by go_num, Lib.hid (by rw [HX.out]; exact HPUSH.out), ⟨HS7.out.setCell hg2 _⟩⟩
            case measure => simp [intOf]; omega
          · obtain rfl : j = U.starts.length := by omega
            have HM2 := H2.out
            rw [List.take_length] at HM2
            have HM2 := Lib.hid HM2
            have t3 : wp.cell? ⟨w.heap.size + 1, 2, none⟩ = some (.slice D2 U.moves.length d2) := (hs2.out.cell (p := ⟨w.heap.size + 1, 2, none⟩) (by simp only; omega)).trans E2.out.2.1
            have hlo3 : w.heap.size + 3 ≤ wp.heap.size := by omega
            clear H2
            go_wp2
            go_loopw [88] (fun i wr => ∃ (l : Nat) (A3 : Option Addr) (c3 : Nat) (bs3 : List Nat), l ≤ U.moves.length ∧ i = .int .i64 l ∧ Hid (EitB wr w2.heap.size g2 T.letters D' (T.starts.length + U.starts.length) d' (T.starts ++ U.starts.map (· + (T.moves.length : Int))) A3 (T.moves.length + l) c3 (T.moves ++ rsW T.moves.length (U.moves.take l)) bs3) ∧ Since w2 wr) (fun i _ => U.moves.length - (intOf i).toNat)
            case atStart => exact ⟨0, A, c, bs, Nat.zero_le _, rfl, Lib.hid (by simpa [rsW] using HM2.out), hs2⟩
            case round =>
              obtain ⟨l, A3, c3, bs3, hl, rfl, H3, hs3⟩ := hrel
              obtain ⟨wq, rfl⟩ : ∃ wq, wq = wr := ⟨_, rfl⟩
              have hzq := hs3.out.size
              have hgq : g2 < wq.heap.size := H3.out.lt
              by_cases hlt3 : l < U.moves.length
              · obtain ⟨x, hx⟩ := get_some hlt3
                obtain ⟨b', o, P, p, rfl, hbb, cx, hxl, rx⟩ := ((r4.up HBw2.out).up hs3.out).row hx
                have hxm := List.mem_of_getElem? hx
                have hx5 : x.length ≤ 5 := by have := HOU.out.row x hxm; have := HL.out; omega
                have HXX : Hid (∀ y ∈ x, y.length ≤ 20 ∧ ∀ m ∈ y, -1 ≤ m.1 ∧ m.1 ≤ 4) := Lib.hid (HOU.out.cell x hxm)
                have HTK : Hid (T.moves ++ rsW T.moves.length (U.moves.take (l + 1)) = (T.moves ++ rsW T.moves.length (U.moves.take l)) ++ [rsR T.moves.length x]) := Lib.hid (by rw [take_snoc hx]; simp [rsW])
                have i2 : (0 : Int) ≤ (l : Int) := by omega
                have i3 : (l : Int) < (U.moves.length : Int) := by omega
                have m1 : wq.cell? ⟨g2, 2, none⟩ = some (.slice A3 (T.moves.length + l) c3) := cell_of_row wq _ 2 _ _ (0, 0) H3.out.blk
                have f1 : wq.frozen? ⟨g2, 2, none⟩ = false := blk_free H3.out.blk
                clear hx hxm
                go_wp2_with fail
                refine (ownLists P x p wq rx (by omega) (fun y hy => by have := (HXX.out y hy).1; omega)).mono ?_
                rintro e w5 ⟨N, nc, bN, rfl, haccN, hb5⟩
                have HN := Lib.hid haccN
                have S5 : Since wq w5 := ⟨hb5⟩
                clear haccN hb5
                go_wp2
                go_loopw [96] (fun i wi => ∃ j : Nat, j ≤ x.length ∧ i = .int .i64 j ∧ Hid (Acc wi wq.heap.size 75 N x.length nc (mixR T.moves.length j x) bN) ∧ Since wq wi) (fun i _ => x.length - (intOf i).toNat)
                case atStart => exact ⟨0, Nat.zero_le _, rfl, Lib.hid (by rw [mixR_zero]; exact HN.out), S5⟩
                case round =>
                  obtain ⟨j, hj, rfl, HJ, hsj⟩ := hrel
                  obtain ⟨wi, rfl⟩ : ∃ wi, wi = wr := ⟨_, rfl⟩
                  have hzi := hsj.out.size
                  by_cases hlt4 : j < x.length
                  · obtain ⟨y, hy⟩ := get_some hlt4
                    have hy20 := HXX.out y (List.mem_of_getElem? hy)
                    have HY : Hid (∀ m ∈ y, -1 ≤ m.1 ∧ m.1 ≤ 4) := Lib.hid hy20.2
                    have hy20 := hy20.1
                    obtain ⟨G, R, rc, rfl, hG1, hG2, cG⟩ := acc_hd HJ.out (mixR_get hy)
                    have HJS : Hid ((mixR T.moves.length j x).set j (rsL T.moves.length y) = mixR T.moves.length (j + 1) x) := Lib.hid (mixR_step hy)
                    have HJ0 : Hid ((mixR T.moves.length j x).set j (mixL T.moves.length 0 y) = mixR T.moves.length j x) := Lib.hid (by rw [mixL_zero]; exact list_set_self (mixR_get hy))
                    have HJG : Hid (∀ q, ((mixR T.moves.length j x).set j q)[j]? = some q) := Lib.hid fun q => List.getElem?_set_self (by rw [mixR_len]; exact hlt4)
                    have j2 : (0 : Int) ≤ (j : Int) := by omega
                    have j3 : (j : Int) < (x.length : Int) := by omega
                    clear hy
                    go_wp2
                    go_loopw [102] (fun i wj => ∃ m : Nat, m ≤ y.length ∧ i = .int .i64 m ∧ Hid (Acc wj wq.heap.size 75 (some ⟨G, 0, none⟩) x.length nc ((mixR T.moves.length j x).set j (mixL T.moves.length m y)) bN ∧ wj.cell? ⟨G, j, none⟩ = some (.slice R y.length rc)) ∧ Since wq wj) (fun i _ => y.length - (intOf i).toNat)
                    case atStart => exact ⟨0, Nat.zero_le _, rfl, Lib.hid ⟨by rw [HJ0.out]; exact HJ.out, cG⟩, hsj⟩
                    case round =>
                      obtain ⟨m, hm0, rfl, HI, hsi⟩ := hrel
                      obtain ⟨wj, rfl⟩ : ∃ wj, wj = wr := ⟨_, rfl⟩
                      have hzj := hsi.out.size
                      by_cases hlt5 : m < y.length
                      · obtain ⟨z, hz⟩ := get_some hlt5
                        have hzb := HY.out z (List.mem_of_getElem? hz)
                        obtain ⟨G', R', rc', hA, hRb, hG1', hG2', hR1, hR2, cG', cz1, cz2, fz, hGR, hup⟩ := acc_to HI.out.1 (HJG.out _) (mixL_get hz)
                        obtain rfl : G = G' := by injection hA with hA; injection hA
                        obtain rfl : R = some ⟨R', 0, none⟩ := by have h := HI.out.2.symm.trans cG'; injection h with h; injection h
                        have cG2 := HI.out.2
                        have HUP := Lib.hid hup
                        have HZ1 : Hid ((mixL T.moves.length m y).set m (rsM T.moves.length z) = mixL T.moves.length (m + 1) y) := Lib.hid (mixL_step hz)
                        have HZG : Hid ((mixL T.moves.length m y)[m]? = some z) := Lib.hid (mixL_get hz)
                        have HZ2 : Hid (rsM T.moves.length z = z → mixL T.moves.length m y = mixL T.moves.length (m + 1) y) := Lib.hid (mixL_skip hz)
                        have m2 : (0 : Int) ≤ (m : Int) := by omega
                        have m3 : (m : Int) < (y.length : Int) := by omega
                        clear hz hA cG'
                        by_cases hm : 0 ≤ z.1
                        · have HE : Hid (rsM T.moves.length z = (z.1 + (T.moves.length : Int), z.2)) := Lib.hid (by unfold rsM; rw [if_pos hm])
                          have hw : wrap64 (z.1 + (T.moves.length : Int)) = z.1 + (T.moves.length : Int) := by unfold wrap64; omega
                          go_wp2_with fail
                          refine (stops_lit z.1 z.2 false wj (by simpa using hm)).mono ?_
                          rintro e w6 ⟨rfl, hb6⟩
                          have hz6 := hb6.size
                          have cz1' := (hb6.cell (p := ⟨R', m * 2, none⟩) hR2).trans cz1
                          have fz' := (hb6.frozen (p := ⟨R', m * 2, none⟩) hR2).trans (fz _)
                          have cG6 := (hb6.cell (p := ⟨G, j, none⟩) hG2').trans cG2
                          obtain ⟨G6, R6, rc6, hA6, -, -, -, -, -, cG7, -, -, -, -, hup6⟩ := acc_to (HI.out.1.below hb6 (Nat.le_refl _)) (HJG.out _) HZG.out
                          obtain rfl : G = G6 := by injection hA6 with hA6; injection hA6
                          obtain rfl : R' = R6 := by have h := cG6.symm.trans cG7; injection h with h; injection h with h; injection h with h; injection h
                          have HUP6 := Lib.hid hup6
                          have S6 : Since wq w6 := ⟨hsi.out.trans (hb6.mono hzj)⟩
                          have hR6 : R' < w6.heap.size := by omega
                          have hG6 : G < w6.heap.size := by omega
                          clear hA6 cG7 hup6 hup
                          go_wp2
                          go_roundw
                          case rel =>
                            refine ⟨m + 1, by omega, by go_num, Lib.hid ⟨?_, by go_simp⟩, ⟨S6.out.setCell hR1 _⟩⟩
                            have h := HUP6.out (z.1 + (T.moves.length : Int))
                            rw [List.set_set] at h
                            rw [← HZ1.out, HE.out]
                            exact h
                          case measure => simp [intOf]; omega
                        · have HE : Hid (rsM T.moves.length z = z) := Lib.hid (by unfold rsM; rw [if_neg hm])
                          go_wp2_with fail
                          refine (stops_lit z.1 z.2 true wj (by simp; omega)).mono ?_
                          rintro e w6 ⟨rfl, hb6⟩
                          have hz6 := hb6.size
                          have cG6 := (hb6.cell (p := ⟨G, j, none⟩) hG2').trans cG2
                          have S6 : Since wq w6 := ⟨hsi.out.trans (hb6.mono hzj)⟩
                          have HB6 := Lib.hid hb6
                          clear hb6 hm hup
                          go_wp2
                          go_roundw
                          case rel => exact ⟨m + 1, by omega, by go_num, Lib.hid ⟨by rw [← HZ2.out HE.out]; exact HI.out.1.below HB6.out (Nat.le_refl _), cG6⟩, S6⟩
                          case measure => simp [intOf]; omega
                      · obtain rfl : m = y.length := by omega
                        go_wp2
                        go_roundw
                        case rel => exact ⟨j + 1, by omega, by go_num, Lib.hid (by have h := HI.out.1; rw [mixL_all, HJS.out] at h; exact h), hsi⟩
                        case measure => simp [intOf]; omega
                  · obtain rfl : j = x.length := by omega
                    have HR := HJ.out
                    rw [mixR_all] at HR
                    have HR := Lib.hid HR
                    have hgi : g2 < wi.heap.size := by omega
                    have m1i : wi.cell? ⟨g2, 2, none⟩ = some (.slice A3 (T.moves.length + l) c3) := (hsj.out.cell (p := ⟨g2, 2, none⟩) hgq).trans m1
                    have f1i : wi.frozen? ⟨g2, 2, none⟩ = false := (hsj.out.frozen (p := ⟨g2, 2, none⟩) hgq).trans f1
                    have HBI := Lib.hid ((hsj.out.block _ hgq).trans H3.out.blk)
                    clear HJ
                    go_wp2_with (
                      obtain ⟨b2, hy, hf⟩ := (HR.out.alloc (.cells #[.slice N x.length nc] 70)).row (by omega)
                      at_builtin
                      refine wpList_push (α := List (List (Int × Int))) _ rfl (.tmp 123) (.tmp 125) 38 rfl w2.heap.size 70 (.slice none 0 0) 24 Try.underlying38 infoMoveSSS rfl A3 (T.moves.length + l) c3 _ bs3 rfl ((H3.out.ms.below hsj.out (Nat.le_refl _)).alloc _) wi.heap.size 1 rfl (rsR T.moves.length x) [.slice N x.length nc] b2 (by have := hy; exact this) (new_cells (by first | rfl | simp [sz_set])) (fun u hu => by (simp at hu; subst hu; rfl)) ⟨hf.1, fun g hg => ⟨by have := (hf.2 g hg).1; omega, (hf.2 g hg).2⟩⟩ (H3.out.ms.apart hf (Nat.le_refl _)) (by omega) (by omega) (by first | omega | (simp only [sz_alloc, sz_set, sz_drew, sz_drewN]; omega) | (simp only [sz_alloc, sz_set, sz_drew, sz_drewN] at *; omega)) ?_
                      intro F1 f1' w7 hacc hgr hnew
                      have HPUSH := Lib.hid (H3.out.pushM (hsj.out.alloc hzi _) hacc hgr hnew hf)
                      have hB1 := Lib.hid ((grown_block hgr (by first | omega | (simp only [sz_alloc, sz_set, sz_drew, sz_drewN]; omega) | (simp only [sz_alloc, sz_set, sz_drew, sz_drewN] at *; omega)) H3.out.a2).trans (alloc_block HBI.out hgi))
                      have HS7 := Lib.hid (Acc.since ((H3.out.ms.below hsj.out (Nat.le_refl _)).alloc (.cells #[.slice N x.length nc] 70)) hgr ((hs3.out.trans (hsj.out.mono hzq)).alloc (by omega) _) (Nat.le_refl _) (by first | omega | (simp only [sz_alloc, sz_set, sz_drew, sz_drewN]; omega) | (simp only [sz_alloc, sz_set, sz_drew, sz_drewN] at *; omega)))
                      have q0 : w7.cell? ⟨g2, 2, none⟩ = some (.slice A3 (T.moves.length + l) c3) := cell_of_row w7 _ 2 _ _ (0, 0) hB1.out
                      have f0 : w7.frozen? ⟨g2, 2, none⟩ = false := blk_free hB1.out
                      clear hacc hgr hnew hy hf)
                    go_roundw
                    case rel => exact ⟨l + 1, F1, f1', _, by omega, by go_num, Lib.hid (by rw [HTK.out]; exact HPUSH.out), ⟨HS7.out.setCell hg2 _⟩⟩
                    case measure => simp [intOf]; omega
              · obtain rfl : l = U.moves.length := by omega
                have HM3 := H3.out
                rw [List.take_length] at HM3
                have HM3 := Lib.hid HM3
                have hbR : wq.heap[w.heap.size + 2]? = some (.cells #[.int .i64 0, .slice none 0 0, .slice none 0 0] 40 (0, 0)) := (hs3.out.block _ (by omega)).trans E2.out.2.2
                have u0 : wq.cell? ⟨g2, 0, none⟩ = some (.int .i64 T.letters) := cell_of_row wq _ 0 _ _ (0, 0) HM3.out.blk
                have u1 : wq.cell? ⟨g2, 1, none⟩ = some (.slice D' (T.starts.length + U.starts.length) d') := cell_of_row wq _ 1 _ _ (0, 0) HM3.out.blk
                have u2 : wq.cell? ⟨g2, 2, none⟩ = some (.slice A3 (T.moves.length + U.moves.length) c3) := cell_of_row wq _ 2 _ _ (0, 0) HM3.out.blk
                have v0 : wq.cell? ⟨w.heap.size + 1 + 1, 0, none⟩ = some (.int .i64 0) := cell_of_row wq _ 0 _ _ (0, 0) hbR
                have v1 : wq.cell? ⟨w.heap.size + 1 + 1, 1, none⟩ = some (.slice none 0 0) := cell_of_row wq _ 1 _ _ (0, 0) hbR
                have v2 : wq.cell? ⟨w.heap.size + 1 + 1, 2, none⟩ = some (.slice none 0 0) := cell_of_row wq _ 2 _ _ (0, 0) hbR
                have v3 : ∀ o, wq.frozen? ⟨w.heap.size + 1 + 1, o, none⟩ = false := fun o => blk_free hbR
                have hlw7 : w.heap.size + 1 + 1 < wq.heap.size := by omega
                have HBwq : Since w wq := ⟨HBw2.out.trans (hs3.out.mono HBw2.out.size)⟩
                clear hbR H3
                go_wp2
                obtain ⟨b1, o1, ff1, m1'⟩ := HM3.out.ss.own
                obtain ⟨b2, o2, ff2, m2'⟩ := HM3.out.ms.own
                have hdis : ∀ x ∈ b1, ∀ y ∈ b2, x ≠ y := fun x hx y hy e => by
                  rcases m1' x hx with ⟨a, ha, rfl⟩ | h1
                  · rcases m2' y hy with ⟨a', ha', rfl⟩ | h2
                    · exact HM3.out.da a a' ha ha' e
                    · exact HM3.out.db a ha (e ▸ h2)
                  · simp at h1
                refine bodyPost_ret (v := .tuple #[.agg #[.int .i64 T.letters, .slice D' (T.starts.length + U.starts.length) d', .slice A3 (T.moves.length + U.moves.length) c3], .int .i64 0]) (by simp [results, Try.results13, go_sem, v0, v1, v2]) rfl
                  ⟨_, b1 ++ b2, rfl, ⟨D', d', A3, c3, b1, b2, by simp [Wn.eitherW, rsW_len], ?_, ?_, rfl⟩, ⟨List.nodup_append.2 ⟨ff1.1, ff2.1, hdis⟩, fun x hx => ?_⟩, (by repeat (first | exact Below.refl _ _ | exact Since.out (by assumption) | refine Below.alloc ?_ (by first | omega | (simp only [sz_alloc, sz_set, sz_drew, sz_drewN]; omega) | (simp only [sz_alloc, sz_set, sz_drew, sz_drewN] at *; omega)) _ | refine Below.setCell ?_ (by first | omega | (simp only [sz_alloc, sz_set, sz_drew, sz_drewN]; omega) | (simp only [sz_alloc, sz_set, sz_drew, sz_drewN] at *; omega)) _ | refine Below.drew ?_ | refine below_drewN_ ?_ _))⟩
                · exact o1.only (bs' := [w.heap.size + 1 + 1]) (by repeat (first | with_reducible exact OnlyB.refl _ _ | with_reducible refine OnlyB.setCell ?_ (by simp) _ | with_reducible refine OnlyB.alloc ?_ _ | with_reducible refine OnlyB.drew ?_ | refine OnlyB.trans ?_ (OnlyB.of_below (by assumption) _))) (fun x hx => ⟨by have := (ff1.2 x hx).1; simp; omega, (ff1.2 x hx).2⟩)
                · exact o2.only (bs' := [w.heap.size + 1 + 1]) (by repeat (first | with_reducible exact OnlyB.refl _ _ | with_reducible refine OnlyB.setCell ?_ (by simp) _ | with_reducible refine OnlyB.alloc ?_ _ | with_reducible refine OnlyB.drew ?_ | refine OnlyB.trans ?_ (OnlyB.of_below (by assumption) _))) (fun x hx => ⟨by have := (ff2.2 x hx).1; simp; omega, (ff2.2 x hx).2⟩)
                · rcases List.mem_append.1 hx with hx | hx
                  · have := ff1.2 x hx; simp only [sz_set]; omega
                  · have := ff2.2 x hx; simp only [sz_set]; omega
end Go.Proofs.Ytpknkaidmefenaa
