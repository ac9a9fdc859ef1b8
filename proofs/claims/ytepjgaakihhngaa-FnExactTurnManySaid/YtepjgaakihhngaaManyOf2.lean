/-
  Contract of the reference's ManyOf. Conditions: those in each statement.
-/
import Derived.Test.YtepjgaakihhngaaManyOf
set_option linter.unusedVariables false
set_option linter.unusedSimpArgs false
set_option maxRecDepth 100000
set_option maxHeartbeats 1000000
namespace Go.Proofs.Ytepjgaakihhngaa
open Go.RowKit

set_option maxHeartbeats 8000000 in
theorem l01Wide (b : Nat) (A1 : Option Addr) (c1 : Nat) (A2 : Option Addr) (c2 : Nat) (T : Rr) (w : World) (q0 : w.cell? ⟨b, 0, none⟩ = some (.int .i64 T.letters)) (q1 : w.cell? ⟨b, 1, none⟩ = some (.int .i64 T.start)) (q2 : w.cell? ⟨b, 2, none⟩ = some (.slice A1 T.accept.length c1)) (q3 : w.cell? ⟨b, 3, none⟩ = some (.slice A2 T.next.length c2)) (hbw : b < w.heap.size)
    (r1 : RdS w w.heap.size A1 T.accept) (r2 : RdS w w.heap.size A2 T.next) (OK : T.Ok) (h5 : T.accept.length ≤ 10) :
    Calls Try.prog 65 #[.pointer (some ⟨b, 0, none⟩)] w (RetMn T.many w) := by
  obtain ⟨l1, l3, n1, n300, s0, s1, hsame, hrow⟩ := OK
  have HR := Lib.hid hrow
  have hn10 : T.next.length ≤ 10 := by omega
  have HS := Lib.hid hsame
  clear hrow hsame
  obtain ⟨ba, oa, rfl, hba, hca⟩ := r1.bools n1
  have HC := Lib.hid hca
  clear hca
  have x1 : b < w.heap.size + 1 := by omega
  have x2 : b < w.heap.size + 1 + 1 := by omega
  have x3 : b < w.heap.size + 1 + 1 + 1 := by omega
  go_enter Try.func65, Try.ntmps65
  go_wp2
  go_cut [3] (fun s3 wx => ∃ (g1 g2 : Nat) (D : Option Addr) (d : Nat) (b2 : List Nat), s3 = .pointer (some ⟨g2, 0, none⟩) ∧ Hid (wx.heap[g2]? = some (.cells #[.int .i64 T.letters, .slice (some ⟨g1, 0, none⟩) 1 1, .slice D T.accept.length d, .slice none 0 0] 48 (0, 0)) ∧ wx.heap[g1]? = some (.cells #[.int .i64 T.start] 2 (0, 0)) ∧ OwnS wx D T.accept b2 ∧ Fresh (w.heap.size + 1) wx b2 ∧ g1 ≠ g2 ∧ g1 ∉ b2 ∧ g2 ∉ b2 ∧ w.heap.size + 1 ≤ g1 ∧ w.heap.size + 1 ≤ g2) ∧ Below (w.heap.size + 1) (w.alloc (.cells #[.int .i64 0, .slice none 0 0, .slice none 0 0, .slice none 0 0] 48)) wx)
  case first =>
    go_region_held3 (fun w' => w'.cell? ⟨b, 0, none⟩ = some (.int .i64 T.letters) ∧ w'.cell? ⟨b, 1, none⟩ = some (.int .i64 T.start) ∧ w'.cell? ⟨b, 2, none⟩ = some (.slice (some ⟨ba, oa, none⟩) T.accept.length c1)) (first | (go_keep; done) | (and_intros <;> go_simp))
      ((refine step_cat (α := Bool) _ (by rfl) (.tmp 16) (.tmp 20) 41 (by rfl) (w.heap.size + 1) 4 (.bool false) 1 Try.underlying41 infoBoolS rfl _ 0 _ ([] : List Bool) [] (by rfl) (Acc.empty_ (by repeat (first | (with_reducible exact new_block rfl) | ((with_reducible refine new_block ?_); (focus (simp only [sz_alloc, sz_set, sz_drew, sz_drewN]; done))) | ((with_reducible refine blk_fill1 (cur := #[.undef]) ?_ ?_); rotate_left; (focus (rfl; done))) | ((with_reducible refine blk_far ?_ ?_ _); rotate_left; (focus ((try simp only [ne_eq]); omega; done))) | ((with_reducible refine alloc_block ?_ ?_); rotate_left; (focus (first | omega | (simp only [sz_alloc, sz_set, sz_drew, sz_drewN]; omega) | (simp only [sz_alloc, sz_set, sz_drew, sz_drewN] at *; omega); done))) | rw [heap_drew] | ((with_reducible refine (Below.block x1 _ ?_).trans ?_); (focus (first | omega | (simp only [sz_alloc, sz_set, sz_drew, sz_drewN]; omega) | (simp only [sz_alloc, sz_set, sz_drew, sz_drewN] at *; omega); done))))) (by omega)) ⟨ba, oa, none⟩ T.accept.length c1 (by rfl) T.accept rfl (T.accept.map Value.bool) (fun _ => Els_bools T.accept) (fun j u hu => by have h := HC.out j u hu; rw [add_lit] at h ⊢; exact (Below.cell (B := w.heap.size) (by repeat (first | exact Below.refl _ _ | refine Below.alloc ?_ (by first | omega | (simp only [sz_alloc, sz_set, sz_drew, sz_drewN]; omega) | (simp only [sz_alloc, sz_set, sz_drew, sz_drewN] at *; omega)) _ | refine Below.setCell ?_ (by first | omega | (simp only [sz_alloc, sz_set, sz_drew, sz_drewN]; omega) | (simp only [sz_alloc, sz_set, sz_drew, sz_drewN] at *; omega)) _ | refine Below.drew ?_ | refine below_drewN_ ?_ _)) (p := ⟨ba, oa + j, none⟩) hba).trans h) (fun u hu => by obtain ⟨x, _, rfl⟩ := List.mem_map.1 hu; rfl) n1 (by omega) (by omega) (by first | omega | (simp only [sz_alloc, sz_set, sz_drew, sz_drewN]; omega) | (simp only [sz_alloc, sz_set, sz_drew, sz_drewN] at *; omega)) ?_; intro D d w2 hacc hgr hnew; have HB2 : Below (w.heap.size + 1) _ w2 := Below.grown (Below.refl _ _) hgr (by first | omega | (simp only [sz_alloc, sz_set, sz_drew, sz_drewN]; omega) | (simp only [sz_alloc, sz_set, sz_drew, sz_drewN] at *; omega)) (fun g hg => by simp at hg; omega); have e0 := (HB2.cell (p := ⟨b, 0, none⟩) x1).trans (show _ = some (.int .i64 T.letters) by go_simp); have e1 := (HB2.cell (p := ⟨b, 1, none⟩) x1).trans (show _ = some (.int .i64 T.start) by go_simp); have e2 := (HB2.cell (p := ⟨b, 2, none⟩) x1).trans (show _ = some (.slice (some ⟨ba, oa, none⟩) T.accept.length c1) by go_simp); obtain ⟨hcK, hfK⟩ := grown_cells hgr; (try ((refine (fun hcK0 => ?_ : (∀ o : Nat, _) → _) (fun o : Nat => hcK (w.heap.size + 1) o ?_ ?_)); rotate_left; (focus ((simp only [sz_alloc, sz_set, sz_drew, sz_drewN]); omega; done)); (focus (omega; done)))); (try ((refine (fun hfK0 => ?_ : (∀ o : Nat, _) → _) (fun o : Nat => hfK (w.heap.size + 1) o ?_ ?_)); rotate_left; (focus ((simp only [sz_alloc, sz_set, sz_drew, sz_drewN]); omega; done)); (focus (omega; done)))); (try ((refine (fun hcK1 => ?_ : (∀ o : Nat, _) → _) (fun o : Nat => hcK (w.heap.size + 1 + 1) o ?_ ?_)); rotate_left; (focus ((simp only [sz_alloc, sz_set, sz_drew, sz_drewN]); omega; done)); (focus (omega; done)))); (try ((refine (fun hfK1 => ?_ : (∀ o : Nat, _) → _) (fun o : Nat => hfK (w.heap.size + 1 + 1) o ?_ ?_)); rotate_left; (focus ((simp only [sz_alloc, sz_set, sz_drew, sz_drewN]); omega; done)); (focus (omega; done)))); (try ((refine (fun hcK2 => ?_ : (∀ o : Nat, _) → _) (fun o : Nat => hcK (w.heap.size + 1 + 1 + 1) o ?_ ?_)); rotate_left; (focus ((simp only [sz_alloc, sz_set, sz_drew, sz_drewN]); omega; done)); (focus (omega; done)))); (try ((refine (fun hfK2 => ?_ : (∀ o : Nat, _) → _) (fun o : Nat => hfK (w.heap.size + 1 + 1 + 1) o ?_ ?_)); rotate_left; (focus ((simp only [sz_alloc, sz_set, sz_drew, sz_drewN]); omega; done)); (focus (omega; done)))); clear hcK hfK; have hz2 := hgr.size; (try simp only [sz_alloc, sz_set, sz_drew, sz_drewN] at hz2); have hl0 : w.heap.size + 1 < w2.heap.size := (by omega); have hbz : b < w2.heap.size := (by omega); (try (have hl1 := Nat.lt_of_lt_of_le (show w.heap.size + 1 + 1 < w.heap.size + 1 + 1 + 1 from Nat.lt_succ_self _) hz2)); (try (have hl1 := Nat.lt_of_lt_of_le (show w.heap.size + 1 + 1 < w.heap.size + 1 + 1 + 1 + 1 from Nat.lt_succ_of_lt (Nat.lt_succ_self _)) hz2)); (try (have hl2 := Nat.lt_of_lt_of_le (show w.heap.size + 1 + 1 + 1 < w.heap.size + 1 + 1 + 1 + 1 from Nat.lt_succ_self _) hz2)); obtain ⟨b2, o2, f2, hm2⟩ := hacc.own; have O2 := Lib.hid o2; have F2 := Lib.hid f2; have hM := own_at hnew hm2; (try simp only [sz_alloc, sz_set, sz_drew, sz_drewN] at hM); have M2 := Lib.hid hM; clear hM; have HQ2 := Lib.hid HB2; have HG := Lib.hid hgr; clear hacc hgr hnew o2 f2 hm2 HB2))
    all_goals
      go_wp2_with fail
      go_meet
      exact ⟨_, _, D, d, b2, rfl, Lib.hid ⟨(by repeat (first | (with_reducible exact new_block rfl) | ((with_reducible refine new_block ?_); (focus (simp only [sz_alloc, sz_set, sz_drew, sz_drewN]; done))) | ((with_reducible refine blk_fill4 (cur := #[.int .i64 0 , .slice none 0 0 , .slice none 0 0 , .slice none 0 0]) ?_ ?_); rotate_left; (focus (rfl; done))) | ((with_reducible refine blk_far ?_ ?_ _); rotate_left; (focus ((try simp only [ne_eq]); omega; done))) | ((with_reducible refine alloc_block ?_ ?_); rotate_left; (focus (first | omega | (simp only [sz_alloc, sz_set, sz_drew, sz_drewN]; omega) | (simp only [sz_alloc, sz_set, sz_drew, sz_drewN] at *; omega); done))) | rw [heap_drew] | ((with_reducible refine (World.grownBy.block HG.out _ ?_ ?_).trans ?_); (focus (first | omega | (simp only [sz_alloc, sz_set, sz_drew, sz_drewN]; omega) | (simp only [sz_alloc, sz_set, sz_drew, sz_drewN] at *; omega); done)); (focus (intro e; first | (simp at e; done) | (simp at e; omega)))))), (by repeat (first | (with_reducible exact new_block rfl) | ((with_reducible refine new_block ?_); (focus (simp only [sz_alloc, sz_set, sz_drew, sz_drewN]; done))) | ((with_reducible refine blk_fill4 (cur := #[.int .i64 0 , .slice none 0 0 , .slice none 0 0 , .slice none 0 0]) ?_ ?_); rotate_left; (focus (rfl; done))) | ((with_reducible refine blk_far ?_ ?_ _); rotate_left; (focus ((try simp only [ne_eq]); omega; done))) | ((with_reducible refine alloc_block ?_ ?_); rotate_left; (focus (first | omega | (simp only [sz_alloc, sz_set, sz_drew, sz_drewN]; omega) | (simp only [sz_alloc, sz_set, sz_drew, sz_drewN] at *; omega); done))) | rw [heap_drew] | ((with_reducible refine (World.grownBy.block HG.out _ ?_ ?_).trans ?_); (focus (first | omega | (simp only [sz_alloc, sz_set, sz_drew, sz_drewN]; omega) | (simp only [sz_alloc, sz_set, sz_drew, sz_drewN] at *; omega); done)); (focus (intro e; first | (simp at e; done) | (simp at e; omega)))))), (by first | (refine O2.out.only (bs' := [w.heap.size + 1]) ?_ ?_; (focus ((repeat (first | with_reducible exact OnlyB.refl _ _ | with_reducible refine OnlyB.setCell ?_ (List.mem_singleton_self _) _ | with_reducible refine OnlyB.alloc ?_ _ | with_reducible refine OnlyB.drew ?_)); done)); (focus (intro g hg; have := F2.out.2 g hg; have := M2.out g hg; simp; omega))) | (refine O2.out.only (bs' := [w.heap.size + 1 + 1]) ?_ ?_; (focus ((repeat (first | with_reducible exact OnlyB.refl _ _ | with_reducible refine OnlyB.setCell ?_ (List.mem_singleton_self _) _ | with_reducible refine OnlyB.alloc ?_ _ | with_reducible refine OnlyB.drew ?_)); done)); (focus (intro g hg; have := F2.out.2 g hg; have := M2.out g hg; simp; omega))) | (refine O2.out.only (bs' := [w.heap.size + 1 + 1 + 1]) ?_ ?_; (focus ((repeat (first | with_reducible exact OnlyB.refl _ _ | with_reducible refine OnlyB.setCell ?_ (List.mem_singleton_self _) _ | with_reducible refine OnlyB.alloc ?_ _ | with_reducible refine OnlyB.drew ?_)); done)); (focus (intro g hg; have := F2.out.2 g hg; have := M2.out g hg; simp; omega))) | (refine O2.out.only (bs' := [w2.heap.size]) ?_ ?_; (focus ((repeat (first | with_reducible exact OnlyB.refl _ _ | with_reducible refine OnlyB.setCell ?_ (List.mem_singleton_self _) _ | with_reducible refine OnlyB.alloc ?_ _ | with_reducible refine OnlyB.drew ?_)); done)); (focus (intro g hg; have := F2.out.2 g hg; have := M2.out g hg; simp; omega))) | (refine O2.out.only (bs' := [w2.heap.size + 1]) ?_ ?_; (focus ((repeat (first | with_reducible exact OnlyB.refl _ _ | with_reducible refine OnlyB.setCell ?_ (List.mem_singleton_self _) _ | with_reducible refine OnlyB.alloc ?_ _ | with_reducible refine OnlyB.drew ?_)); done)); (focus (intro g hg; have := F2.out.2 g hg; have := M2.out g hg; simp; omega)))), ⟨F2.out.1, fun g hg => by have := F2.out.2 g hg; simp only [sz_alloc, sz_set, sz_drew, sz_drewN]; omega⟩, (by omega), (fun hm => by have := F2.out.2 _ hm; have := M2.out _ hm; omega), (fun hm => by have := F2.out.2 _ hm; have := M2.out _ hm; omega), (by omega), (by omega)⟩, (by (repeat (first | refine Below.alloc ?_ (by first | omega | (simp only [sz_alloc, sz_set, sz_drew, sz_drewN]; omega) | (simp only [sz_alloc, sz_set, sz_drew, sz_drewN] at *; omega)) _ | refine Below.setCell ?_ (by first | omega | (simp only [sz_alloc, sz_set, sz_drew, sz_drewN]; omega) | (simp only [sz_alloc, sz_set, sz_drew, sz_drewN] at *; omega)) _ | refine Below.drew ?_)); refine Below.trans ?_ HQ2.out; (repeat (first | exact Below.refl _ _ | refine Below.alloc ?_ (by first | omega | (simp only [sz_alloc, sz_set, sz_drew, sz_drewN]; omega) | (simp only [sz_alloc, sz_set, sz_drew, sz_drewN] at *; omega)) _ | refine Below.drew ?_)))⟩
  case rest =>
    obtain ⟨g1, g2, D, d, bD, rfl, HQ, hs0⟩ := hcut
    obtain ⟨w3, rfl⟩ : ∃ x, x = wc := ⟨_, rfl⟩
    have hg2 : g2 < w3.heap.size := (Array.getElem?_eq_some_iff.1 HQ.out.1).1
    have hw13 : w.heap.size + 1 ≤ w3.heap.size := by have := hs0.size; simp only [sz_alloc] at this; exact this
    have hs0w : Since w w3 := ⟨Below.trans ((Below.refl _ _).alloc (Nat.le_refl _) _) (hs0.mono (by omega))⟩
    have t3 : w3.cell? ⟨b, 3, none⟩ = some (.slice A2 T.next.length c2) := (hs0w.out.cell (p := ⟨b, 3, none⟩) hbw).trans q3
    have Q3 := Lib.hid q3
    clear q0 q1 q3
    go_wp2
    go_loopw [4] (fun i wr => ∃ (k : Nat) (A : Option Addr) (c : Nat) (bs : List Nat), k ≤ T.next.length ∧ i = .int .i64 k ∧ Hid (Acc wr w3.heap.size 42 A k c ((T.next.take k).map manyR) bs ∧
        wr.heap[g2]? = some (.cells #[.int .i64 T.letters, .slice (some ⟨g1, 0, none⟩) 1 1, .slice D T.accept.length d, .slice A k c] 48 (0, 0)) ∧ OnlyB [g2] w3 wr) ∧ Since w wr ∧ w3.heap.size ≤ wr.heap.size) (fun i _ => T.next.length - (intOf i).toNat)
    case atStart => exact ⟨0, none, 0, [], Nat.zero_le _, rfl, Lib.hid ⟨Acc.nil_ _ _ _, HQ.out.1, OnlyB.refl _ _⟩, hs0w, Nat.le_refl _⟩
    case round =>
      obtain ⟨k, A, c, bs, hk, rfl, H, hs, hzr⟩ := hrel
      obtain ⟨wo, rfl⟩ : ∃ wo, wo = wr := ⟨_, rfl⟩
      by_cases hlt : k < T.next.length
      · obtain ⟨x, hx⟩ := get_some hlt
        have rb := r2.up hs.out
        have tb := (hs.out.cell (p := ⟨b, 3, none⟩) hbw).trans Q3.out
        have hbo : b < wo.heap.size := Nat.lt_of_lt_of_le hbw hs.out.size
        obtain ⟨b', o, P, p, rfl, hbb, cx, hxl, rx⟩ := rb.row hx
        have hx5 : x.length ≤ 3 := by have := HR.out x (List.mem_of_getElem? hx); omega
        have HX : Hid ((T.next.take (k + 1)).map manyR = (T.next.take k).map manyR ++ [manyR x]) := Lib.hid (by rw [take_snoc hx]; simp)
        have i2 : (0 : Int) ≤ (k : Int) := by omega
        have i3 : (k : Int) < (T.next.length : Int) := by omega
        clear hx
        go_wp2
        go_loopw [5, 6] (fun l i wi => ∃ (j : Nat) (A' : Option Addr) (c' : Nat) (bs' : List Nat), j ≤ x.length ∧ i = .int .i64 j ∧ l = .slice A' j c' ∧ Hid (Acc wi wo.heap.size 26 A' j c' (manyR (x.take j)) bs') ∧ Since wo wi) (fun _ i _ => x.length - (intOf i).toNat)
        case atStart => exact ⟨0, _, _, [], Nat.zero_le _, rfl, rfl, Lib.hid (Acc.empty_ (new_block rfl) (Nat.le_refl _)), ⟨(by repeat (first | exact Below.refl _ _ | refine Below.alloc ?_ (by first | omega | (simp only [sz_alloc, sz_set, sz_drew, sz_drewN]; omega) | (simp only [sz_alloc, sz_set, sz_drew, sz_drewN] at *; omega)) _ | refine Below.setCell ?_ (by first | omega | (simp only [sz_alloc, sz_set, sz_drew, sz_drewN]; omega) | (simp only [sz_alloc, sz_set, sz_drew, sz_drewN] at *; omega)) _ | refine Below.drew ?_ | refine below_drewN_ ?_ _))⟩⟩
        case round =>
          obtain ⟨j, A', c', bs', hj, rfl, rfl, H2, hs2⟩ := hrel
          obtain ⟨wi, rfl⟩ : ∃ wi, wi = wr := ⟨_, rfl⟩
          have hzi := hs2.out.size
          have ti := (hs2.out.cell (p := ⟨b, 3, none⟩) hbo).trans tb
          have cxi := (hs2.out.cell (p := ⟨b', o + k, none⟩) hbb).trans cx
          have hbi : b < wi.heap.size := by omega
          have hbi2 : b' < wi.heap.size := by omega
          by_cases hlt2 : j < x.length
          · obtain ⟨z, hz⟩ := get_some hlt2
            obtain ⟨f, g, rfl, hff, c5⟩ := (rx.up hs2.out).int hz
            have HZ : Hid (manyR (x.take (j + 1)) = manyR (x.take j) ++ [[z]]) := Lib.hid (by rw [take_snoc hz]; simp [manyR])
            have j2 : (0 : Int) ≤ (j : Int) := by omega
            have j3 : (j : Int) < (x.length : Int) := by omega
            clear hz
            go_wp2_with (at_builtin; refine wpList_push (α := List Int) _ rfl (.tmp 45) (.tmp 57) 42 rfl wo.heap.size 26 (.slice none 0 0) 24 Try.underlying42 infoInt64SS rfl A' j c' _ bs' rfl (H2.out.below (C := wi.heap.size) (by repeat (first | exact Below.refl _ _ | refine Below.alloc ?_ (by first | omega | (simp only [sz_alloc, sz_set, sz_drew, sz_drewN]; omega) | (simp only [sz_alloc, sz_set, sz_drew, sz_drewN] at *; omega)) _ | refine Below.setCell ?_ (by first | omega | (simp only [sz_alloc, sz_set, sz_drew, sz_drewN]; omega) | (simp only [sz_alloc, sz_set, sz_drew, sz_drewN] at *; omega)) _ | refine Below.drew ?_ | refine below_drewN_ ?_ _)) (Nat.le_refl _)) (wi.heap.size + 1) 1 rfl [z] [.slice (some ⟨wi.heap.size, 0, none⟩) 1 1] [wi.heap.size] (own_one (t := 2) (alloc_block (new_block rfl) (by first | omega | (simp only [sz_alloc, sz_set, sz_drew, sz_drewN]; omega) | (simp only [sz_alloc, sz_set, sz_drew, sz_drewN] at *; omega)))) (new_cells (by first | rfl | simp [sz_set])) (fun u hu => by (simp at hu; subst hu; rfl)) ⟨by simp, fun g hg => by rw [List.mem_singleton.1 hg]; simp only [sz_alloc]; omega⟩ (H2.out.apart (B' := wi.heap.size) (w1 := (wi.alloc (.cells #[.int .i64 z] 2)).alloc (.cells #[.slice (some ⟨wi.heap.size, 0, none⟩) 1 1] 26)) ⟨by simp, fun g hg => by rw [List.mem_singleton.1 hg]; simp only [sz_alloc]; omega⟩ (Nat.le_refl _)) (by omega) (by omega) (by first | omega | (simp only [sz_alloc, sz_set, sz_drew, sz_drewN]; omega) | (simp only [sz_alloc, sz_set, sz_drew, sz_drewN] at *; omega)) ?_
                         intro D1 d1 w2 hacc hgr hnew
                         have HS2 : Since wo w2 := ⟨Acc.since (H2.out.below (C := wi.heap.size) (by repeat (first | exact Below.refl _ _ | refine Below.alloc ?_ (by first | omega | (simp only [sz_alloc, sz_set, sz_drew, sz_drewN]; omega) | (simp only [sz_alloc, sz_set, sz_drew, sz_drewN] at *; omega)) _ | refine Below.setCell ?_ (by first | omega | (simp only [sz_alloc, sz_set, sz_drew, sz_drewN]; omega) | (simp only [sz_alloc, sz_set, sz_drew, sz_drewN] at *; omega)) _ | refine Below.drew ?_ | refine below_drewN_ ?_ _)) (Nat.le_refl _)) hgr (by repeat (first | exact Below.refl _ _ | exact Since.out (by assumption) | refine Below.alloc ?_ (by first | omega | (simp only [sz_alloc, sz_set, sz_drew, sz_drewN]; omega) | (simp only [sz_alloc, sz_set, sz_drew, sz_drewN] at *; omega)) _ | refine Below.setCell ?_ (by first | omega | (simp only [sz_alloc, sz_set, sz_drew, sz_drewN]; omega) | (simp only [sz_alloc, sz_set, sz_drew, sz_drewN] at *; omega)) _ | refine Below.drew ?_ | refine below_drewN_ ?_ _)) (Nat.le_refl _) (by first | omega | (simp only [sz_alloc, sz_set, sz_drew, sz_drewN]; omega) | (simp only [sz_alloc, sz_set, sz_drew, sz_drewN] at *; omega))⟩
                         have HA := Lib.hid hacc
                         clear hacc hgr hnew)
            go_roundw
            case rel => exact ⟨j + 1, D1, d1, _, by omega, by go_num, rfl, Lib.hid (by rw [HZ.out]; exact HA.out), HS2⟩
            case measure => simp [intOf]; omega
          · obtain rfl : j = x.length := by omega
            have hrow := H2.out
            rw [List.take_length] at hrow
            have q0 : wi.heap[g2]? = some (.cells #[.int .i64 T.letters, .slice (some ⟨g1, 0, none⟩) 1 1, .slice D T.accept.length d, .slice A k c] 48 (0, 0)) := (hs2.out.block _ (by omega)).trans H.out.2.1
            have k2 : wi.cell? ⟨g2, 3, none⟩ = some (.slice A k c) := cell_of_row wi _ 3 _ _ (0, 0) q0
            have hgi : g2 < wi.heap.size := by omega
            have Q0 := Lib.hid q0
            have HROW := Lib.hid hrow
            clear q0 hrow
            go_wp2_with (obtain ⟨b2, hy, hf⟩ := (HROW.out.alloc (.cells #[.slice A' x.length c'] 42)).row (by omega)
                         at_builtin; refine wpList_push (α := List (List Int)) _ rfl (.tmp 60) (.tmp 62) 46 rfl w3.heap.size 42 (.slice none 0 0) 24 Try.underlying46 infoInt64SSS rfl A k c _ bs rfl (H.out.1.below (C := wo.heap.size) (by repeat (first | exact Below.refl _ _ | exact Since.out (by assumption) | refine Below.alloc ?_ (by first | omega | (simp only [sz_alloc, sz_set, sz_drew, sz_drewN]; omega) | (simp only [sz_alloc, sz_set, sz_drew, sz_drewN] at *; omega)) _ | refine Below.setCell ?_ (by first | omega | (simp only [sz_alloc, sz_set, sz_drew, sz_drewN]; omega) | (simp only [sz_alloc, sz_set, sz_drew, sz_drewN] at *; omega)) _ | refine Below.drew ?_ | refine below_drewN_ ?_ _)) (Nat.le_refl _)) wi.heap.size 1 rfl (manyR x) [.slice A' x.length c'] b2 hy (new_cells (by first | rfl | simp [sz_set])) (fun u hu => by (simp at hu; subst hu; rfl)) ⟨hf.1, fun g hg => ⟨by have := (hf.2 g hg).1; omega, (hf.2 g hg).2⟩⟩ (H.out.1.apart hf (Nat.le_refl _)) (by omega) (by omega) (by first | omega | (simp only [sz_alloc, sz_set, sz_drew, sz_drewN]; omega) | (simp only [sz_alloc, sz_set, sz_drew, sz_drewN] at *; omega)) ?_
                         intro D1 d1 w4 hacc hgr hnew
                         have HS4 : Below w3.heap.size wo w4 := Acc.since (H.out.1.below (C := wo.heap.size) (by repeat (first | exact Below.refl _ _ | exact Since.out (by assumption) | refine Below.alloc ?_ (by first | omega | (simp only [sz_alloc, sz_set, sz_drew, sz_drewN]; omega) | (simp only [sz_alloc, sz_set, sz_drew, sz_drewN] at *; omega)) _ | refine Below.setCell ?_ (by first | omega | (simp only [sz_alloc, sz_set, sz_drew, sz_drewN]; omega) | (simp only [sz_alloc, sz_set, sz_drew, sz_drewN] at *; omega)) _ | refine Below.drew ?_ | refine below_drewN_ ?_ _)) (Nat.le_refl _)) hgr ((below_cat (B := wo.heap.size) (Below.refl _ _) (by repeat (first | exact Below.refl _ _ | exact Since.out (by assumption) | refine Below.alloc ?_ (by first | omega | (simp only [sz_alloc, sz_set, sz_drew, sz_drewN]; omega) | (simp only [sz_alloc, sz_set, sz_drew, sz_drewN] at *; omega)) _ | refine Below.setCell ?_ (by first | omega | (simp only [sz_alloc, sz_set, sz_drew, sz_drewN]; omega) | (simp only [sz_alloc, sz_set, sz_drew, sz_drewN] at *; omega)) _ | refine Below.drew ?_ | refine below_drewN_ ?_ _)) (Nat.le_refl _)).mono hzr) (Nat.le_refl _) (by first | omega | (simp only [sz_alloc, sz_set, sz_drew, sz_drewN]; omega) | (simp only [sz_alloc, sz_set, sz_drew, sz_drewN] at *; omega))
                         have hB1 := (H.out.1.below (w' := wi.alloc (.cells #[.slice A' x.length c'] 42)) (C := wo.heap.size) (by repeat (first | exact Below.refl _ _ | exact Since.out (by assumption) | refine Below.alloc ?_ (by first | omega | (simp only [sz_alloc, sz_set, sz_drew, sz_drewN]; omega) | (simp only [sz_alloc, sz_set, sz_drew, sz_drewN] at *; omega)) _ | refine Below.setCell ?_ (by first | omega | (simp only [sz_alloc, sz_set, sz_drew, sz_drewN]; omega) | (simp only [sz_alloc, sz_set, sz_drew, sz_drewN] at *; omega)) _ | refine Below.drew ?_ | refine below_drewN_ ?_ _)) (Nat.le_refl _)).box hgr (alloc_block Q0.out hgi) hg2
                         have f2 : w4.frozen? ⟨g2, 3, none⟩ = false := blk_free hB1
                         have k3 : w4.cell? ⟨g2, 3, none⟩ = some (.slice A k c) := cell_of_row w4 _ 3 _ _ (0, 0) hB1
                         have hz4 : g2 < w4.heap.size := (Array.getElem?_eq_some_iff.1 hB1).1
                         have HB1 := Lib.hid hB1
                         have HA := Lib.hid hacc
                         have HS5 := Lib.hid HS4
                         have hzw4 := HS4.size
                         clear hacc hgr hnew hy hf hB1 HS4)
            go_roundw
            case rel =>
              refine ⟨k + 1, D1, d1, bs ++ b2, by omega, by go_num, Lib.hid ⟨?_, ?_, ?_⟩, ⟨?_⟩, (by first | omega | (simp only [sz_alloc, sz_set, sz_drew, sz_drewN]; omega) | (simp only [sz_alloc, sz_set, sz_drew, sz_drewN] at *; omega))⟩
              · rw [HX.out]
                exact HA.out.setCell (fun a ha => by have := HA.out.lt a ha; simp; omega) (fun hm => by have := (HA.out.fresh.2 _ hm).1; simp at this; omega) _
              · exact blk_set HB1.out _
              · exact (H.out.2.2.tail HS5.out).setCell (List.mem_singleton_self _) _
              · exact (hs.out.trans (HS5.out.mono (by omega))).setCell (by simp only; have := HQ.out.2.2.2.2.2.2.2; omega) _
            case measure => simp [intOf]; omega
      · obtain rfl : k = T.next.length := by omega
        have q0 := H.out.2.1
        have k0 : wo.cell? ⟨g2, 0, none⟩ = some (.int .i64 T.letters) := cell_of_row wo _ 0 _ _ (0, 0) q0
        have k1 : wo.cell? ⟨g2, 1, none⟩ = some (.slice (some ⟨g1, 0, none⟩) 1 1) := cell_of_row wo _ 1 _ _ (0, 0) q0
        have k2 : wo.cell? ⟨g2, 2, none⟩ = some (.slice D T.accept.length d) := cell_of_row wo _ 2 _ _ (0, 0) q0
        have k3 : wo.cell? ⟨g2, 3, none⟩ = some (.slice A T.next.length c) := cell_of_row wo _ 3 _ _ (0, 0) q0
        clear q0
        have tb := (hs.out.cell (p := ⟨b, 3, none⟩) hbw).trans Q3.out
        have hwg : w.heap.size ∉ [g2] := by have := HQ.out.2.2.2.2.2.2.2.2; simp; omega
        have hcR := fun o => (World.cell?_of_block (a := ⟨w.heap.size, o, none⟩) (H.out.2.2.block w.heap.size (by omega) hwg)).trans (hs0.cell (p := ⟨w.heap.size, o, none⟩) (Nat.lt_succ_self _))
        have hfR := fun o => (World.frozen?_of_block (a := ⟨w.heap.size, o, none⟩) (H.out.2.2.block w.heap.size (by omega) hwg)).trans (hs0.frozen (p := ⟨w.heap.size, o, none⟩) (Nat.lt_succ_self _))
        have hlR : w.heap.size < wo.heap.size := by omega
        have tbR : T.next.length < T.next.length + 1 := by omega
        go_wp2
        have hA := H.out.1
        rw [List.take_length] at hA
        obtain ⟨b2, o2, f2, _⟩ := hA.own
        obtain ⟨-, hb1, oD, fD, n12, n1D, n2D, m1, m2⟩ := HQ.out
        have hg1 : g1 < w3.heap.size := (Array.getElem?_eq_some_iff.1 hb1).1
        have hD : ∀ g ∈ bD, w.heap.size + 1 ≤ g ∧ g < w3.heap.size := fun g hg => fD.2 g hg
        have o1 : OwnS wo (some ⟨g1, 0, none⟩) [T.start] [g1] := (show OwnS w3 (some ⟨g1, 0, none⟩) [T.start] [g1] from OwnS.of (m := 1) hb1 ⟨[.int .i64 T.start], [], [], [], rfl, rfl, ⟨rfl, rfl⟩, rfl, rfl⟩).only H.out.2.2 (fun g hg => by rw [List.mem_singleton.1 hg]; exact ⟨by simpa using n12, hg1⟩)
        have oD' : OwnS wo D T.accept bD := oD.only H.out.2.2 (fun g hg => ⟨by simp; rintro rfl; exact n2D hg, (hD g hg).2⟩)
        refine bodyPost_ret (v := .agg #[.int .i64 T.letters, .slice (some ⟨g1, 0, none⟩) 1 1, .slice D T.accept.length d, .slice A T.next.length c]) (by simp [results, Try.results65, go_sem, hcR]) rfl
          ⟨_, g1 :: (bD ++ b2), rfl, ⟨some ⟨g1, 0, none⟩, 1, D, d, A, c, [g1], bD, b2, by simp [Rr.many], o1.only (bs' := [w.heap.size]) (by repeat (first | with_reducible exact OnlyB.refl _ _ | with_reducible refine OnlyB.setCell ?_ (by simp) _ | with_reducible refine OnlyB.alloc ?_ _ | with_reducible refine OnlyB.drew ?_ | refine OnlyB.trans ?_ (OnlyB.of_below (by assumption) _))) (fun g hg => ?_), oD'.only (bs' := [w.heap.size]) (by repeat (first | with_reducible exact OnlyB.refl _ _ | with_reducible refine OnlyB.setCell ?_ (by simp) _ | with_reducible refine OnlyB.alloc ?_ _ | with_reducible refine OnlyB.drew ?_ | refine OnlyB.trans ?_ (OnlyB.of_below (by assumption) _))) (fun g hg => ?_), o2.only (bs' := [w.heap.size]) (by repeat (first | with_reducible exact OnlyB.refl _ _ | with_reducible refine OnlyB.setCell ?_ (by simp) _ | with_reducible refine OnlyB.alloc ?_ _ | with_reducible refine OnlyB.drew ?_ | refine OnlyB.trans ?_ (OnlyB.of_below (by assumption) _))) (fun g hg => ?_), rfl⟩, ⟨List.nodup_cons.2 ⟨fun hm => ?_, List.nodup_append.2 ⟨fD.1, f2.1, fun g hg g' hg' e => ?_⟩⟩, fun g hg => ?_⟩, (by repeat (first | exact Below.refl _ _ | exact Since.out (by assumption) | refine Below.alloc ?_ (by first | omega | (simp only [sz_alloc, sz_set, sz_drew, sz_drewN]; omega) | (simp only [sz_alloc, sz_set, sz_drew, sz_drewN] at *; omega)) _ | refine Below.setCell ?_ (by first | omega | (simp only [sz_alloc, sz_set, sz_drew, sz_drewN]; omega) | (simp only [sz_alloc, sz_set, sz_drew, sz_drewN] at *; omega)) _ | refine Below.drew ?_ | refine below_drewN_ ?_ _))⟩
        · rw [List.mem_singleton.1 hg]; simp; omega
        · have := hD g hg; simp; omega
        · have := f2.2 g hg; simp; omega
        · rcases List.mem_append.1 hm with hm | hm
          · exact n1D hm
          · have := f2.2 _ hm; omega
        · have := hD g hg; have := f2.2 _ hg'; omega
        · simp only [sz_set]
          rcases List.mem_cons.1 hg with rfl | hg
          · omega
          · rcases List.mem_append.1 hg with hg | hg
            · have := hD g hg; omega
            · have := f2.2 g hg; omega
end Go.Proofs.Ytepjgaakihhngaa
