/-
  Contract of the program's ManyOf. Conditions: those in each statement.
-/
import Derived.Test.YtepjgaakihhngaaROk
import Derived.Test.YtepjgaakihhngaaSMany
import Derived.Test.YtepjgaakihhngaaCat
import Derived.Deep.RegionHeld3
import Derived.Lib.SliceRun
import Derived.Deep.RegionWith
import Derived.Deep.DeepCutAuto
set_option linter.unusedVariables false
set_option linter.unusedSimpArgs false
set_option maxRecDepth 100000
set_option maxHeartbeats 1000000
namespace Go.Proofs.Ytepjgaakihhngaa
open Go.RowKit

def manyR (r : List Int) : List (List Int) := r.map fun t => [t]
def Rr.many (T : Rr) : Mn := ⟨T.letters, [T.start], T.accept, T.next.map manyR⟩
def Rr.manyC (T : Rr) : Mn := if T.okB && decide (T.accept.length ≤ 10) then T.many else ⟨0, [], [], []⟩
def Rr.manyCode (T : Rr) : Int := if T.okB then (if T.accept.length ≤ 10 then 0 else 3) else 1

/-- slices.Clone of a list of bools that is not empty. -/
theorem cloneBools (A : Option Addr) (xs : List Bool) (c : Nat) (w : World) (r : RdS w w.heap.size A xs) (hn : 0 < xs.length) (hl : xs.length ≤ 1048576) :
    Calls Try.prog 69 #[.slice A xs.length c] w (RetOwn xs w) := by
  obtain ⟨b, o, rfl, hb, hc⟩ := r.bools hn
  have HC := Lib.hid hc
  clear hc
  have q : ∀ (w : World) (a : Option Addr) (n c n' c' : Nat), (binOp .eql 41 (.slice a n c) (.slice none n' c')).run Try.prog w = .ok (.bool a.isNone) w := fun w a n c n' c' => Go.Lib.run_eql_slice_nil w _ _ a n c n' c' Try.underlying41
  go_enter Try.func69, Try.ntmps69
  go_wp2_with (at_builtin; refine wpList_cat (α := Bool) _ rfl (.tmp 5) (.tmp 6) 41 rfl w.heap.size 4 (.bool false) 1 Try.underlying41 infoBoolS rfl (some ⟨w.heap.size, 0, none⟩) 0 0 ([] : List Bool) [] rfl (Acc.empty_ (new_block rfl) (Nat.le_refl _)) ⟨b, o, none⟩ xs.length c rfl xs rfl (xs.map Value.bool) (fun _ => Els_bools xs) (fun j u hu => by have h := HC.out j u hu; rw [add_lit] at h ⊢; exact (Below.cell ((Below.refl _ w).alloc (Nat.le_refl _) _) (p := ⟨b, o + j, none⟩) hb).trans h) (fun u hu => by obtain ⟨x, _, rfl⟩ := List.mem_map.1 hu; rfl) (by omega) (by omega) (by omega) (by first | omega | (simp only [sz_alloc, sz_set, sz_drew, sz_drewN]; omega) | (simp only [sz_alloc, sz_set, sz_drew, sz_drewN] at *; omega)) ?_
               intro D d w1 hacc hgr hnew
               have HS : Since w w1 := ⟨Below.grown (by repeat (first | exact Below.refl _ _ | refine Below.alloc ?_ (by first | omega | (simp only [sz_alloc, sz_set, sz_drew, sz_drewN]; omega) | (simp only [sz_alloc, sz_set, sz_drew, sz_drewN] at *; omega)) _ | refine Below.setCell ?_ (by first | omega | (simp only [sz_alloc, sz_set, sz_drew, sz_drewN]; omega) | (simp only [sz_alloc, sz_set, sz_drew, sz_drewN] at *; omega)) _ | refine Below.drew ?_ | refine below_drewN_ ?_ _)) hgr (by first | omega | (simp only [sz_alloc, sz_set, sz_drew, sz_drewN]; omega) | (simp only [sz_alloc, sz_set, sz_drew, sz_drewN] at *; omega)) (fun g hg => by simp at hg; omega)⟩
               have HA := Lib.hid hacc
               clear hacc hgr hnew)
  go_ret
  have hA := HA.out
  rw [List.nil_append, Nat.zero_add] at hA
  obtain ⟨b2, o2, f2, _⟩ := hA.own
  exact ⟨D, d, b2, rfl, o2, f2, HS.out⟩

set_option maxHeartbeats 8000000 in
theorem manyOf_yes (A1 : Option Addr) (c1 : Nat) (A2 : Option Addr) (c2 : Nat) (T : Rr) (w : World) (r1 : RdS w w.heap.size A1 T.accept) (r2 : RdS w w.heap.size A2 T.next) (OK : T.Ok) (hok : T.okB = true) (h5 : T.accept.length ≤ 10) (hn : T.tot ≤ 1048576) :
    Calls Try.prog 23 #[.agg #[.int .i64 T.letters, .int .i64 T.start, .slice A1 T.accept.length c1, .slice A2 T.next.length c2]] w (RetMnC T.many 0 w) := by
  have HO := Lib.hid hok
  clear hok
  obtain ⟨l1, l3, n1, n300, s0, s1, hsame, hrow⟩ := OK
  have HR := Lib.hid hrow
  have hn10 : T.next.length ≤ 10 := by omega
  have HS := Lib.hid hsame
  have h5' : (T.next.length : Int) ≤ 10 := by omega
  clear hrow hsame
  go_enter Try.func23, Try.ntmps23
  go_wp2_with fail
  refine (validReader_impl _ T _ ⟨A1, c1, A2, c2, rfl, r1.up (by repeat (first | exact Below.refl _ _ | refine Below.alloc ?_ (by first | omega | (simp only [sz_alloc, sz_set, sz_drew, sz_drewN]; omega) | (simp only [sz_alloc, sz_set, sz_drew, sz_drewN] at *; omega)) _ | refine Below.setCell ?_ (by first | omega | (simp only [sz_alloc, sz_set, sz_drew, sz_drewN]; omega) | (simp only [sz_alloc, sz_set, sz_drew, sz_drewN] at *; omega)) _ | refine Below.drew ?_ | refine below_drewN_ ?_ _)), r2.up (by repeat (first | exact Below.refl _ _ | refine Below.alloc ?_ (by first | omega | (simp only [sz_alloc, sz_set, sz_drew, sz_drewN]; omega) | (simp only [sz_alloc, sz_set, sz_drew, sz_drewN] at *; omega)) _ | refine Below.setCell ?_ (by first | omega | (simp only [sz_alloc, sz_set, sz_drew, sz_drewN]; omega) | (simp only [sz_alloc, sz_set, sz_drew, sz_drewN] at *; omega)) _ | refine Below.drew ?_ | refine below_drewN_ ?_ _))⟩ hn).mono ?_
  rintro e w1 ⟨rfl, hb1⟩
  rw [HO.out]
  have HBw1 : Since w w1 := ⟨below_cat (by repeat (first | exact Below.refl _ _ | exact Since.out (by assumption) | refine Below.alloc ?_ (by first | omega | (simp only [sz_alloc, sz_set, sz_drew, sz_drewN]; omega) | (simp only [sz_alloc, sz_set, sz_drew, sz_drewN] at *; omega)) _ | refine Below.setCell ?_ (by first | omega | (simp only [sz_alloc, sz_set, sz_drew, sz_drewN]; omega) | (simp only [sz_alloc, sz_set, sz_drew, sz_drewN] at *; omega)) _ | refine Below.drew ?_ | refine below_drewN_ ?_ _)) hb1 (by first | omega | (simp only [sz_alloc, sz_set, sz_drew, sz_drewN]; omega) | (simp only [sz_alloc, sz_set, sz_drew, sz_drewN] at *; omega))⟩; have hzw1 := hb1.size; (try simp only [sz_alloc, sz_set, sz_drew, sz_drewN] at hzw1); have hcw1k0 := fun o => hb1.cell (p := ⟨w.heap.size, o, none⟩) (by first | omega | (simp only [sz_alloc, sz_set, sz_drew, sz_drewN]; omega) | (simp only [sz_alloc, sz_set, sz_drew, sz_drewN] at *; omega)); have hfw1k0 := fun o => hb1.frozen (p := ⟨w.heap.size, o, none⟩) (by first | omega | (simp only [sz_alloc, sz_set, sz_drew, sz_drewN]; omega) | (simp only [sz_alloc, sz_set, sz_drew, sz_drewN] at *; omega)); have hlw1k0 : w.heap.size < w1.heap.size := (by first | omega | (simp only [sz_alloc, sz_set, sz_drew, sz_drewN]; omega) | (simp only [sz_alloc, sz_set, sz_drew, sz_drewN] at *; omega)); have hcw1k1 := fun o => hb1.cell (p := ⟨w.heap.size + 1, o, none⟩) (by first | omega | (simp only [sz_alloc, sz_set, sz_drew, sz_drewN]; omega) | (simp only [sz_alloc, sz_set, sz_drew, sz_drewN] at *; omega)); have hfw1k1 := fun o => hb1.frozen (p := ⟨w.heap.size + 1, o, none⟩) (by first | omega | (simp only [sz_alloc, sz_set, sz_drew, sz_drewN]; omega) | (simp only [sz_alloc, sz_set, sz_drew, sz_drewN] at *; omega)); have hlw1k1 : w.heap.size + 1 < w1.heap.size := (by first | omega | (simp only [sz_alloc, sz_set, sz_drew, sz_drewN]; omega) | (simp only [sz_alloc, sz_set, sz_drew, sz_drewN] at *; omega))
  go_wp2
  go_cut [4] (fun s4 wx => ∃ (g1 g2 : Nat) (D : Option Addr) (d : Nat) (b2 : List Nat), s4 = .pointer (some ⟨g2, 0, none⟩) ∧ Hid (wx.heap[g2]? = some (.cells #[.int .i64 T.letters, .slice (some ⟨g1, 0, none⟩) 1 1, .slice D T.accept.length d, .slice none 0 0] 48 (0, 0)) ∧ wx.heap[g1]? = some (.cells #[.int .i64 T.start] 2 (0, 0)) ∧ OwnS wx D T.accept b2 ∧ Fresh w1.heap.size wx b2 ∧ g1 ≠ g2 ∧ g1 ∉ b2 ∧ g2 ∉ b2 ∧ w1.heap.size ≤ g1 ∧ w1.heap.size ≤ g2) ∧ Since w1 wx)
  case first =>
    go_region_held3 (fun w' => w'.cell? ⟨w.heap.size, 0, none⟩ = some (.int .i64 T.letters) ∧ w'.cell? ⟨w.heap.size, 1, none⟩ = some (.int .i64 T.start) ∧ w'.cell? ⟨w.heap.size, 2, none⟩ = some (.slice A1 T.accept.length c1)) (first | (go_keep; done) | (and_intros <;> go_simp))
      ((go_at_call 69; refine (cloneBools A1 T.accept c1 _ (r1.up (by repeat (first | exact Below.refl _ _ | exact Since.out (by assumption) | refine Below.alloc ?_ (by first | omega | (simp only [sz_alloc, sz_set, sz_drew, sz_drewN]; omega) | (simp only [sz_alloc, sz_set, sz_drew, sz_drewN] at *; omega)) _ | refine Below.setCell ?_ (by first | omega | (simp only [sz_alloc, sz_set, sz_drew, sz_drewN]; omega) | (simp only [sz_alloc, sz_set, sz_drew, sz_drewN] at *; omega)) _ | refine Below.drew ?_ | refine below_drewN_ ?_ _))) (by omega) (by omega)).mono ?_; rintro e w2 ⟨D, d, b2, rfl, o2, f2, hb2⟩; (try simp only [sz_alloc, sz_set, sz_drew, sz_drewN] at f2); have HQ2 : Since w1 w2 := ⟨below_cat (by repeat (first | exact Below.refl _ _ | exact Since.out (by assumption) | refine Below.alloc ?_ (by first | omega | (simp only [sz_alloc, sz_set, sz_drew, sz_drewN]; omega) | (simp only [sz_alloc, sz_set, sz_drew, sz_drewN] at *; omega)) _ | refine Below.setCell ?_ (by first | omega | (simp only [sz_alloc, sz_set, sz_drew, sz_drewN]; omega) | (simp only [sz_alloc, sz_set, sz_drew, sz_drewN] at *; omega)) _ | refine Below.drew ?_ | refine below_drewN_ ?_ _)) hb2 (by first | omega | (simp only [sz_alloc, sz_set, sz_drew, sz_drewN]; omega) | (simp only [sz_alloc, sz_set, sz_drew, sz_drewN] at *; omega))⟩; have HBw2 : Since w w2 := ⟨below_cat (by repeat (first | exact Below.refl _ _ | exact Since.out (by assumption) | refine Below.alloc ?_ (by first | omega | (simp only [sz_alloc, sz_set, sz_drew, sz_drewN]; omega) | (simp only [sz_alloc, sz_set, sz_drew, sz_drewN] at *; omega)) _ | refine Below.setCell ?_ (by first | omega | (simp only [sz_alloc, sz_set, sz_drew, sz_drewN]; omega) | (simp only [sz_alloc, sz_set, sz_drew, sz_drewN] at *; omega)) _ | refine Below.drew ?_ | refine below_drewN_ ?_ _)) hb2 (by first | omega | (simp only [sz_alloc, sz_set, sz_drew, sz_drewN]; omega) | (simp only [sz_alloc, sz_set, sz_drew, sz_drewN] at *; omega))⟩; have hzw2 := hb2.size; (try simp only [sz_alloc, sz_set, sz_drew, sz_drewN] at hzw2); have hcw2k0 := fun o => hb2.cell (p := ⟨w.heap.size, o, none⟩) (by first | omega | (simp only [sz_alloc, sz_set, sz_drew, sz_drewN]; omega) | (simp only [sz_alloc, sz_set, sz_drew, sz_drewN] at *; omega)); have hfw2k0 := fun o => hb2.frozen (p := ⟨w.heap.size, o, none⟩) (by first | omega | (simp only [sz_alloc, sz_set, sz_drew, sz_drewN]; omega) | (simp only [sz_alloc, sz_set, sz_drew, sz_drewN] at *; omega)); have hlw2k0 : w.heap.size < w2.heap.size := (by first | omega | (simp only [sz_alloc, sz_set, sz_drew, sz_drewN]; omega) | (simp only [sz_alloc, sz_set, sz_drew, sz_drewN] at *; omega)); have hcw2k1 := fun o => hb2.cell (p := ⟨w.heap.size + 1, o, none⟩) (by first | omega | (simp only [sz_alloc, sz_set, sz_drew, sz_drewN]; omega) | (simp only [sz_alloc, sz_set, sz_drew, sz_drewN] at *; omega)); have hfw2k1 := fun o => hb2.frozen (p := ⟨w.heap.size + 1, o, none⟩) (by first | omega | (simp only [sz_alloc, sz_set, sz_drew, sz_drewN]; omega) | (simp only [sz_alloc, sz_set, sz_drew, sz_drewN] at *; omega)); have hlw2k1 : w.heap.size + 1 < w2.heap.size := (by first | omega | (simp only [sz_alloc, sz_set, sz_drew, sz_drewN]; omega) | (simp only [sz_alloc, sz_set, sz_drew, sz_drewN] at *; omega)); (try (have hcw2a := fun o => hb2.cell (p := ⟨w1.heap.size, o, none⟩) (by first | omega | (simp only [sz_alloc, sz_set, sz_drew, sz_drewN]; omega) | (simp only [sz_alloc, sz_set, sz_drew, sz_drewN] at *; omega)); have hfw2a := fun o => hb2.frozen (p := ⟨w1.heap.size, o, none⟩) (by first | omega | (simp only [sz_alloc, sz_set, sz_drew, sz_drewN]; omega) | (simp only [sz_alloc, sz_set, sz_drew, sz_drewN] at *; omega)); have hlw2a : w1.heap.size < _ := Nat.lt_of_lt_of_le (m := _) (by first | omega | (simp only [sz_alloc, sz_set, sz_drew, sz_drewN]; omega) | (simp only [sz_alloc, sz_set, sz_drew, sz_drewN] at *; omega)) hb2.size)); (try (have hcw2b := fun o => hb2.cell (p := ⟨w1.heap.size + 1, o, none⟩) (by first | omega | (simp only [sz_alloc, sz_set, sz_drew, sz_drewN]; omega) | (simp only [sz_alloc, sz_set, sz_drew, sz_drewN] at *; omega)); have hfw2b := fun o => hb2.frozen (p := ⟨w1.heap.size + 1, o, none⟩) (by first | omega | (simp only [sz_alloc, sz_set, sz_drew, sz_drewN]; omega) | (simp only [sz_alloc, sz_set, sz_drew, sz_drewN] at *; omega)); have hlw2b : w1.heap.size + 1 < _ := Nat.lt_of_lt_of_le (m := _) (by first | omega | (simp only [sz_alloc, sz_set, sz_drew, sz_drewN]; omega) | (simp only [sz_alloc, sz_set, sz_drew, sz_drewN] at *; omega)) hb2.size))))
    all_goals
      go_wp2_with fail
      go_meet
      exact ⟨_, _, D, d, b2, rfl, Lib.hid ⟨(by repeat (first | (with_reducible exact new_block rfl) | ((with_reducible refine new_block ?_); (focus (simp only [sz_alloc, sz_set, sz_drew, sz_drewN]; done))) | ((with_reducible refine blk_fill4 (cur := #[.int .i64 0 , .slice none 0 0 , .slice none 0 0 , .slice none 0 0]) ?_ ?_); rotate_left; (focus (rfl; done))) | ((with_reducible refine blk_far ?_ ?_ _); rotate_left; (focus ((try simp only [ne_eq]); omega; done))) | ((with_reducible refine alloc_block ?_ ?_); rotate_left; (focus (first | omega | (simp only [sz_alloc, sz_set, sz_drew, sz_drewN]; omega) | (simp only [sz_alloc, sz_set, sz_drew, sz_drewN] at *; omega); done))) | rw [heap_drew] | ((with_reducible refine (Below.block hb2 _ ?_).trans ?_); (focus (first | omega | (simp only [sz_alloc, sz_set, sz_drew, sz_drewN]; omega) | (simp only [sz_alloc, sz_set, sz_drew, sz_drewN] at *; omega); done))))), (by repeat (first | (with_reducible exact new_block rfl) | ((with_reducible refine new_block ?_); (focus (simp only [sz_alloc, sz_set, sz_drew, sz_drewN]; done))) | ((with_reducible refine blk_fill4 (cur := #[.int .i64 0 , .slice none 0 0 , .slice none 0 0 , .slice none 0 0]) ?_ ?_); rotate_left; (focus (rfl; done))) | ((with_reducible refine blk_far ?_ ?_ _); rotate_left; (focus ((try simp only [ne_eq]); omega; done))) | ((with_reducible refine alloc_block ?_ ?_); rotate_left; (focus (first | omega | (simp only [sz_alloc, sz_set, sz_drew, sz_drewN]; omega) | (simp only [sz_alloc, sz_set, sz_drew, sz_drewN] at *; omega); done))) | rw [heap_drew] | ((with_reducible refine (Below.block hb2 _ ?_).trans ?_); (focus (first | omega | (simp only [sz_alloc, sz_set, sz_drew, sz_drewN]; omega) | (simp only [sz_alloc, sz_set, sz_drew, sz_drewN] at *; omega); done))))), (by first | (refine o2.only (bs' := [w1.heap.size]) ?_ ?_; (focus ((repeat (first | with_reducible exact OnlyB.refl _ _ | with_reducible refine OnlyB.setCell ?_ (List.mem_singleton_self _) _ | with_reducible refine OnlyB.alloc ?_ _ | with_reducible refine OnlyB.drew ?_)); done)); (focus (intro g hg; have := f2.2 g hg; simp; omega))) | (refine o2.only (bs' := [w1.heap.size + 1]) ?_ ?_; (focus ((repeat (first | with_reducible exact OnlyB.refl _ _ | with_reducible refine OnlyB.setCell ?_ (List.mem_singleton_self _) _ | with_reducible refine OnlyB.alloc ?_ _ | with_reducible refine OnlyB.drew ?_)); done)); (focus (intro g hg; have := f2.2 g hg; simp; omega))) | (refine o2.only (bs' := [w2.heap.size]) ?_ ?_; (focus ((repeat (first | with_reducible exact OnlyB.refl _ _ | with_reducible refine OnlyB.setCell ?_ (List.mem_singleton_self _) _ | with_reducible refine OnlyB.alloc ?_ _ | with_reducible refine OnlyB.drew ?_)); done)); (focus (intro g hg; have := f2.2 g hg; simp; omega))) | (refine o2.only (bs' := [w2.heap.size + 1]) ?_ ?_; (focus ((repeat (first | with_reducible exact OnlyB.refl _ _ | with_reducible refine OnlyB.setCell ?_ (List.mem_singleton_self _) _ | with_reducible refine OnlyB.alloc ?_ _ | with_reducible refine OnlyB.drew ?_)); done)); (focus (intro g hg; have := f2.2 g hg; simp; omega)))), ⟨f2.1, fun g hg => by have := f2.2 g hg; simp only [sz_alloc, sz_set, sz_drew, sz_drewN]; omega⟩, (by omega), (fun hm => by have := f2.2 _ hm; omega), (fun hm => by have := f2.2 _ hm; omega), (by omega), (by omega)⟩, ⟨(by repeat (first | exact Below.refl _ _ | exact Since.out (by assumption) | refine Below.alloc ?_ (by first | omega | (simp only [sz_alloc, sz_set, sz_drew, sz_drewN]; omega) | (simp only [sz_alloc, sz_set, sz_drew, sz_drewN] at *; omega)) _ | refine Below.setCell ?_ (by first | omega | (simp only [sz_alloc, sz_set, sz_drew, sz_drewN]; omega) | (simp only [sz_alloc, sz_set, sz_drew, sz_drewN] at *; omega)) _ | refine Below.drew ?_ | refine below_drewN_ ?_ _))⟩⟩
  case rest =>
    obtain ⟨g1, g2, D, d, bD, rfl, HQ, hs0⟩ := hcut
    obtain ⟨w3, rfl⟩ : ∃ x, x = wc := ⟨_, rfl⟩
    have hg2 : g2 < w3.heap.size := (Array.getElem?_eq_some_iff.1 HQ.out.1).1
    have hlw : w.heap.size + 1 < w1.heap.size := by omega
    have hw13 := hs0.out.size
    have t3 : w3.cell? ⟨w.heap.size, 3, none⟩ = some (.slice A2 T.next.length c2) := (hs0.out.cell (p := ⟨w.heap.size, 3, none⟩) (by simp only; omega)).trans (by go_simp)
    go_wp2
    go_loopw [33] (fun i wr => ∃ (k : Nat) (A : Option Addr) (c : Nat) (bs : List Nat), k ≤ T.next.length ∧ i = .int .i64 k ∧ Hid (Acc wr w3.heap.size 42 A k c ((T.next.take k).map manyR) bs ∧
        wr.heap[g2]? = some (.cells #[.int .i64 T.letters, .slice (some ⟨g1, 0, none⟩) 1 1, .slice D T.accept.length d, .slice A k c] 48 (0, 0)) ∧ OnlyB [g2] w3 wr) ∧ Since w1 wr ∧ w3.heap.size ≤ wr.heap.size) (fun i _ => T.next.length - (intOf i).toNat)
    case atStart => exact ⟨0, none, 0, [], Nat.zero_le _, rfl, Lib.hid ⟨Acc.nil_ _ _ _, HQ.out.1, OnlyB.refl _ _⟩, hs0, Nat.le_refl _⟩
    case round =>
      obtain ⟨k, A, c, bs, hk, rfl, H, hs, hzr⟩ := hrel
      obtain ⟨wo, rfl⟩ : ∃ wo, wo = wr := ⟨_, rfl⟩
      by_cases hlt : k < T.next.length
      · obtain ⟨x, hx⟩ := get_some hlt
        have rb := (r2.up HBw1.out).up hs.out
        obtain ⟨b', o, P, p, rfl, hbb, cx, hxl, rx⟩ := rb.row hx
        have hx5 : x.length ≤ 3 := by have := HR.out x (List.mem_of_getElem? hx); omega
        have HX : Hid ((T.next.take (k + 1)).map manyR = (T.next.take k).map manyR ++ [manyR x]) := Lib.hid (by rw [take_snoc hx]; simp)
        have i2 : (0 : Int) ≤ (k : Int) := by omega
        have i3 : (k : Int) < (T.next.length : Int) := by omega
        clear hx
        go_wp2
        go_loopw [7, 40] (fun l i wi => ∃ (j : Nat) (A' : Option Addr) (c' : Nat) (bs' : List Nat), j ≤ x.length ∧ i = .int .i64 j ∧ l = .slice A' j c' ∧ Hid (Acc wi wo.heap.size 26 A' j c' (manyR (x.take j)) bs') ∧ Since wo wi) (fun _ i _ => x.length - (intOf i).toNat)
        case atStart => exact ⟨0, _, _, [], Nat.zero_le _, rfl, rfl, Lib.hid (Acc.empty_ (new_block rfl) (Nat.le_refl _)), ⟨(by repeat (first | exact Below.refl _ _ | refine Below.alloc ?_ (by first | omega | (simp only [sz_alloc, sz_set, sz_drew, sz_drewN]; omega) | (simp only [sz_alloc, sz_set, sz_drew, sz_drewN] at *; omega)) _ | refine Below.setCell ?_ (by first | omega | (simp only [sz_alloc, sz_set, sz_drew, sz_drewN]; omega) | (simp only [sz_alloc, sz_set, sz_drew, sz_drewN] at *; omega)) _ | refine Below.drew ?_ | refine below_drewN_ ?_ _))⟩⟩
        case round =>
          obtain ⟨j, A', c', bs', hj, rfl, rfl, H2, hs2⟩ := hrel
          obtain ⟨wi, rfl⟩ : ∃ wi, wi = wr := ⟨_, rfl⟩
          have hzi := hs2.out.size
          by_cases hlt2 : j < x.length
          · obtain ⟨z, hz⟩ := get_some hlt2
            obtain ⟨f, g, rfl, hff, c5⟩ := (rx.up hs2.out).int hz
            have HZ : Hid (manyR (x.take (j + 1)) = manyR (x.take j) ++ [[z]]) := Lib.hid (by rw [take_snoc hz]; simp [manyR])
            have j2 : (0 : Int) ≤ (j : Int) := by omega
            have j3 : (j : Int) < (x.length : Int) := by omega
            clear hz
            go_wp2_with (at_builtin; refine wpList_push (α := List Int) _ rfl (.tmp 44) (.tmp 47) 42 rfl wo.heap.size 26 (.slice none 0 0) 24 Try.underlying42 infoInt64SS rfl A' j c' _ bs' rfl (H2.out.below (C := wi.heap.size) (by repeat (first | exact Below.refl _ _ | refine Below.alloc ?_ (by first | omega | (simp only [sz_alloc, sz_set, sz_drew, sz_drewN]; omega) | (simp only [sz_alloc, sz_set, sz_drew, sz_drewN] at *; omega)) _ | refine Below.setCell ?_ (by first | omega | (simp only [sz_alloc, sz_set, sz_drew, sz_drewN]; omega) | (simp only [sz_alloc, sz_set, sz_drew, sz_drewN] at *; omega)) _ | refine Below.drew ?_ | refine below_drewN_ ?_ _)) (Nat.le_refl _)) (wi.heap.size + 1) 1 rfl [z] [.slice (some ⟨wi.heap.size, 0, none⟩) 1 1] [wi.heap.size] (own_one (t := 2) (alloc_block (new_block rfl) (by first | omega | (simp only [sz_alloc, sz_set, sz_drew, sz_drewN]; omega) | (simp only [sz_alloc, sz_set, sz_drew, sz_drewN] at *; omega)))) (new_cells (by first | rfl | simp [sz_set])) (fun u hu => by (simp at hu; subst hu; rfl)) ⟨by simp, fun g hg => by rw [List.mem_singleton.1 hg]; simp only [sz_alloc]; omega⟩ (H2.out.apart (B' := wi.heap.size) (w1 := (wi.alloc (.cells #[.int .i64 z] 2)).alloc (.cells #[.slice (some ⟨wi.heap.size, 0, none⟩) 1 1] 26)) ⟨by simp, fun g hg => by rw [List.mem_singleton.1 hg]; simp only [sz_alloc]; omega⟩ (Nat.le_refl _)) (by omega) (by omega) (by first | omega | (simp only [sz_alloc, sz_set, sz_drew, sz_drewN]; omega) | (simp only [sz_alloc, sz_set, sz_drew, sz_drewN] at *; omega)) ?_
                         intro D1 d1 w2 hacc hgr hnew
                         have HS2 : Since wo w2 := ⟨Acc.since (H2.out.below (C := wi.heap.size) (by repeat (first | exact Below.refl _ _ | refine Below.alloc ?_ (by first | omega | (simp only [sz_alloc, sz_set, sz_drew, sz_drewN]; omega) | (simp only [sz_alloc, sz_set, sz_drew, sz_drewN] at *; omega)) _ | refine Below.setCell ?_ (by first | omega | (simp only [sz_alloc, sz_set, sz_drew, sz_drewN]; omega) | (simp only [sz_alloc, sz_set, sz_drew, sz_drewN] at *; omega)) _ | refine Below.drew ?_ | refine below_drewN_ ?_ _)) (Nat.le_refl _)) hgr (by repeat (first | exact Below.refl _ _ | exact Since.out (by assumption) | refine Below.alloc ?_ (by first | omega | (simp only [sz_alloc, sz_set, sz_drew, sz_drewN]; omega) | (simp only [sz_alloc, sz_set, sz_drew, sz_drewN] at *; omega)) _ | refine Below.setCell ?_ (by first | omega | (simp only [sz_alloc, sz_set, sz_drew, sz_drewN]; omega) | (simp only [sz_alloc, sz_set, sz_drew, sz_drewN] at *; omega)) _ | refine Below.drew ?_ | refine below_drewN_ ?_ _)) (Nat.le_refl _) (by first | omega | (simp only [sz_alloc, sz_set, sz_drew, sz_drewN]; omega) | (simp only [sz_alloc, sz_set, sz_drew, sz_drewN] at *; omega))⟩
                         have HA := Lib.hid hacc
                         clear hacc hgr hnew)
            go_roundw
            case rel => exact ⟨j + 1, D1, d1, _, by omega, by go_num, rfl, Lib.hid (by rw [HZ.out]; exact HA.out), HS2⟩
            case measure => simp [intOf]; omega
          · obtain rfl : j = x.length := by omega
            have hrow := H2.out
            rw [List.take_length] at hrow
            have q0 : wi.heap[g2]? = some (.cells #[.int .i64 T.letters, .slice (some ⟨g1, 0, none⟩) 1 1, .slice D T.accept.length d, .slice A k c] 48 (0, 0)) := (hs2.out.block _ (by omega)).trans H.out.2.1
            have k2 : wi.cell? ⟨g2, 3, none⟩ = some (.slice A k c) := cell_of_row wi _ 3 _ _ (0, 0) q0
            have hgi : g2 < wi.heap.size := by omega
            have Q0 := Lib.hid q0
            have HROW := Lib.hid hrow
            clear q0 hrow
            go_wp2_with (obtain ⟨b2, hy, hf⟩ := (HROW.out.alloc (.cells #[.slice A' x.length c'] 42)).row (by omega)
                         at_builtin; refine wpList_push (α := List (List Int)) _ rfl (.tmp 51) (.tmp 53) 46 rfl w3.heap.size 42 (.slice none 0 0) 24 Try.underlying46 infoInt64SSS rfl A k c _ bs rfl (H.out.1.below (C := wo.heap.size) (by repeat (first | exact Below.refl _ _ | exact Since.out (by assumption) | refine Below.alloc ?_ (by first | omega | (simp only [sz_alloc, sz_set, sz_drew, sz_drewN]; omega) | (simp only [sz_alloc, sz_set, sz_drew, sz_drewN] at *; omega)) _ | refine Below.setCell ?_ (by first | omega | (simp only [sz_alloc, sz_set, sz_drew, sz_drewN]; omega) | (simp only [sz_alloc, sz_set, sz_drew, sz_drewN] at *; omega)) _ | refine Below.drew ?_ | refine below_drewN_ ?_ _)) (Nat.le_refl _)) wi.heap.size 1 rfl (manyR x) [.slice A' x.length c'] b2 hy (new_cells (by first | rfl | simp [sz_set])) (fun u hu => by (simp at hu; subst hu; rfl)) ⟨hf.1, fun g hg => ⟨by have := (hf.2 g hg).1; omega, (hf.2 g hg).2⟩⟩ (H.out.1.apart hf (Nat.le_refl _)) (by omega) (by omega) (by first | omega | (simp only [sz_alloc, sz_set, sz_drew, sz_drewN]; omega) | (simp only [sz_alloc, sz_set, sz_drew, sz_drewN] at *; omega)) ?_
                         intro D1 d1 w4 hacc hgr hnew
                         have HS4 : Below w3.heap.size wo w4 := Acc.since (H.out.1.below (C := wo.heap.size) (by repeat (first | exact Below.refl _ _ | exact Since.out (by assumption) | refine Below.alloc ?_ (by first | omega | (simp only [sz_alloc, sz_set, sz_drew, sz_drewN]; omega) | (simp only [sz_alloc, sz_set, sz_drew, sz_drewN] at *; omega)) _ | refine Below.setCell ?_ (by first | omega | (simp only [sz_alloc, sz_set, sz_drew, sz_drewN]; omega) | (simp only [sz_alloc, sz_set, sz_drew, sz_drewN] at *; omega)) _ | refine Below.drew ?_ | refine below_drewN_ ?_ _)) (Nat.le_refl _)) hgr ((below_cat (B := wo.heap.size) (Below.refl _ _) (by repeat (first | exact Below.refl _ _ | exact Since.out (by assumption) | refine Below.alloc ?_ (by first | omega | (simp only [sz_alloc, sz_set, sz_drew, sz_drewN]; omega) | (simp only [sz_alloc, sz_set, sz_drew, sz_drewN] at *; omega)) _ | refine Below.setCell ?_ (by first | omega | (simp only [sz_alloc, sz_set, sz_drew, sz_drewN]; omega) | (simp only [sz_alloc, sz_set, sz_drew, sz_drewN] at *; omega)) _ | refine Below.drew ?_ | refine below_drewN_ ?_ _)) (Nat.le_refl _)).mono hzr) (Nat.le_refl _) (by first | omega | (simp only [sz_alloc, sz_set, sz_drew, sz_drewN]; omega) | (simp only [sz_alloc, sz_set, sz_drew, sz_drewN] at *; omega))
                         have hB1 := (H.out.1.below (w' := wi.alloc (.cells #[.slice A' x.length c'] 42)) (C := wo.heap.size) (by repeat (first | exact Below.refl _ _ | exact Since.out (by assumption) | refine Below.alloc ?_ (by first | omega | (simp only [sz_alloc, sz_set, sz_drew, sz_drewN]; omega) | (simp only [sz_alloc, sz_set, sz_drew, sz_drewN] at *; omega)) _ | refine Below.setCell ?_ (by first | omega | (simp only [sz_alloc, sz_set, sz_drew, sz_drewN]; omega) | (simp only [sz_alloc, sz_set, sz_drew, sz_drewN] at *; omega)) _ | refine Below.drew ?_ | refine below_drewN_ ?_ _)) (Nat.le_refl _)).box hgr (alloc_block Q0.out hgi) hg2
                         have f2 : w4.frozen? ⟨g2, 3, none⟩ = false := blk_free hB1
                         have k3 : w4.cell? ⟨g2, 3, none⟩ = some (.slice A k c) := cell_of_row w4 _ 3 _ _ (0, 0) hB1
                         have hz4 : g2 < w4.heap.size := (Array.getElem?_eq_some_iff.1 hB1).1
                         have HB1 := Lib.hid hB1
                         have HA := Lib.hid hacc
                         have HS5 := Lib.hid HS4
                         have hzw4 := HS4.size
                         clear hacc hgr hnew hy hf hB1 HS4)
            go_roundw
            case rel =>
              refine ⟨k + 1, D1, d1, bs ++ b2, by omega, by go_num, Lib.hid ⟨?_, ?_, ?_⟩, ⟨?_⟩, (by first | omega | (simp only [sz_alloc, sz_set, sz_drew, sz_drewN]; omega) | (simp only [sz_alloc, sz_set, sz_drew, sz_drewN] at *; omega))⟩
              · rw [HX.out]
                exact HA.out.setCell (fun a ha => by have := HA.out.lt a ha; simp; omega) (fun hm => by have := (HA.out.fresh.2 _ hm).1; simp at this; omega) _
              · exact blk_set HB1.out _
              · exact (H.out.2.2.tail HS5.out).setCell (List.mem_singleton_self _) _
              · exact (hs.out.trans (HS5.out.mono hw13)).setCell (by simp only; have := HQ.out.2.2.2.2.2.2.2; omega) _
            case measure => simp [intOf]; omega
      · obtain rfl : k = T.next.length := by omega
        have q0 := H.out.2.1
        have k0 : wo.cell? ⟨g2, 0, none⟩ = some (.int .i64 T.letters) := cell_of_row wo _ 0 _ _ (0, 0) q0
        have k1 : wo.cell? ⟨g2, 1, none⟩ = some (.slice (some ⟨g1, 0, none⟩) 1 1) := cell_of_row wo _ 1 _ _ (0, 0) q0
        have k2 : wo.cell? ⟨g2, 2, none⟩ = some (.slice D T.accept.length d) := cell_of_row wo _ 2 _ _ (0, 0) q0
        have k3 : wo.cell? ⟨g2, 3, none⟩ = some (.slice A T.next.length c) := cell_of_row wo _ 3 _ _ (0, 0) q0
        clear q0
        have hcwo1 := fun o => hs.out.cell (p := ⟨w.heap.size + 1, o, none⟩) (by first | omega | (simp only [sz_alloc, sz_set, sz_drew, sz_drewN]; omega) | (simp only [sz_alloc, sz_set, sz_drew, sz_drewN] at *; omega)); have hfwo1 := fun o => hs.out.frozen (p := ⟨w.heap.size + 1, o, none⟩) (by first | omega | (simp only [sz_alloc, sz_set, sz_drew, sz_drewN]; omega) | (simp only [sz_alloc, sz_set, sz_drew, sz_drewN] at *; omega)); have hlwo1 : w.heap.size + 1 < _ := Nat.lt_of_lt_of_le (m := _) (by first | omega | (simp only [sz_alloc, sz_set, sz_drew, sz_drewN]; omega) | (simp only [sz_alloc, sz_set, sz_drew, sz_drewN] at *; omega)) hs.out.size
        have HBwo : Since w wo := ⟨below_cat HBw1.out hs.out HBw1.out.size⟩
        go_wp2
        have hA := H.out.1
        rw [List.take_length] at hA
        obtain ⟨b2, o2, f2, _⟩ := hA.own
        obtain ⟨-, hb1, oD, fD, n12, n1D, n2D, m1, m2⟩ := HQ.out
        have hg1 : g1 < w3.heap.size := (Array.getElem?_eq_some_iff.1 hb1).1
        have hD : ∀ g ∈ bD, w1.heap.size ≤ g ∧ g < w3.heap.size := fun g hg => fD.2 g hg
        have o1 : OwnS wo (some ⟨g1, 0, none⟩) [T.start] [g1] := (show OwnS w3 (some ⟨g1, 0, none⟩) [T.start] [g1] from OwnS.of (m := 1) hb1 ⟨[.int .i64 T.start], [], [], [], rfl, rfl, ⟨rfl, rfl⟩, rfl, rfl⟩).only H.out.2.2 (fun g hg => by rw [List.mem_singleton.1 hg]; exact ⟨by simpa using n12, hg1⟩)
        have oD' : OwnS wo D T.accept bD := oD.only H.out.2.2 (fun g hg => ⟨by simp; rintro rfl; exact n2D hg, (hD g hg).2⟩)
        refine bodyPost_ret (v := .tuple #[.agg #[.int .i64 T.letters, .slice (some ⟨g1, 0, none⟩) 1 1, .slice D T.accept.length d, .slice A T.next.length c], .int .i64 0]) (by simp [results, Try.results23, go_sem, hcwo1, hcw1k1]) rfl
          ⟨_, g1 :: (bD ++ b2), rfl, ⟨some ⟨g1, 0, none⟩, 1, D, d, A, c, [g1], bD, b2, by simp [Rr.many], o1.only (bs' := [w.heap.size + 1]) (by repeat (first | with_reducible exact OnlyB.refl _ _ | with_reducible refine OnlyB.setCell ?_ (by simp) _ | with_reducible refine OnlyB.alloc ?_ _ | with_reducible refine OnlyB.drew ?_ | refine OnlyB.trans ?_ (OnlyB.of_below (by assumption) _))) (fun g hg => ?_), oD'.only (bs' := [w.heap.size + 1]) (by repeat (first | with_reducible exact OnlyB.refl _ _ | with_reducible refine OnlyB.setCell ?_ (by simp) _ | with_reducible refine OnlyB.alloc ?_ _ | with_reducible refine OnlyB.drew ?_ | refine OnlyB.trans ?_ (OnlyB.of_below (by assumption) _))) (fun g hg => ?_), o2.only (bs' := [w.heap.size + 1]) (by repeat (first | with_reducible exact OnlyB.refl _ _ | with_reducible refine OnlyB.setCell ?_ (by simp) _ | with_reducible refine OnlyB.alloc ?_ _ | with_reducible refine OnlyB.drew ?_ | refine OnlyB.trans ?_ (OnlyB.of_below (by assumption) _))) (fun g hg => ?_), rfl⟩, ⟨List.nodup_cons.2 ⟨fun hm => ?_, List.nodup_append.2 ⟨fD.1, f2.1, fun g hg g' hg' e => ?_⟩⟩, fun g hg => ?_⟩, (by repeat (first | exact Below.refl _ _ | exact Since.out (by assumption) | refine Below.alloc ?_ (by first | omega | (simp only [sz_alloc, sz_set, sz_drew, sz_drewN]; omega) | (simp only [sz_alloc, sz_set, sz_drew, sz_drewN] at *; omega)) _ | refine Below.setCell ?_ (by first | omega | (simp only [sz_alloc, sz_set, sz_drew, sz_drewN]; omega) | (simp only [sz_alloc, sz_set, sz_drew, sz_drewN] at *; omega)) _ | refine Below.drew ?_ | refine below_drewN_ ?_ _))⟩
        · rw [List.mem_singleton.1 hg]; simp; omega
        · have := hD g hg; simp; omega
        · have := f2.2 g hg; simp; omega
        · rcases List.mem_append.1 hm with hm | hm
          · exact n1D hm
          · have := f2.2 _ hm; omega
        · have := hD g hg; have := f2.2 _ hg'; omega
        · simp only [sz_set]
          rcases List.mem_cons.1 hg with rfl | hg
          · omega
          · rcases List.mem_append.1 hg with hg | hg
            · have := hD g hg; omega
            · have := f2.2 g hg; omega

theorem manyOf_impl (v : Value) (T : Rr) (w : World) (h1 : RdRr w w.heap.size v T) (hn : T.tot ≤ 1048576) :
    Calls Try.prog 23 #[v] w (RetMnC T.manyC T.manyCode w) := by
  obtain ⟨A1, c1, A2, c2, rfl, r1, r2⟩ := h1
  by_cases hok : T.okB = true
  · by_cases h5 : T.accept.length ≤ 10
    · have hC : T.manyC = T.many := by unfold Rr.manyC; simp [hok, h5]
      have hD : T.manyCode = 0 := by unfold Rr.manyCode; simp [hok, h5]
      rw [hC, hD]
      exact manyOf_yes A1 c1 A2 c2 T w r1 r2 (Rr.ok_of hok) hok h5 hn
    · have hC : Hid (T.manyC = ⟨0, [], [], []⟩ ∧ T.manyCode = 3) := Lib.hid (by unfold Rr.manyC Rr.manyCode; simp [hok, h5])
      rw [hC.out.1, hC.out.2]
      have HO := Lib.hid hok
      have hl := (Rr.ok_of hok).n300
      have hs := (Rr.ok_of hok).same
      have h5' : (10 : Int) < (T.next.length : Int) := by omega
      clear hok hs
      go_enter Try.func23, Try.ntmps23
      go_wp2_with fail
      refine (validReader_impl _ T _ ⟨A1, c1, A2, c2, rfl, r1.up (by repeat (first | exact Below.refl _ _ | refine Below.alloc ?_ (by first | omega | (simp only [sz_alloc, sz_set, sz_drew, sz_drewN]; omega) | (simp only [sz_alloc, sz_set, sz_drew, sz_drewN] at *; omega)) _ | refine Below.setCell ?_ (by first | omega | (simp only [sz_alloc, sz_set, sz_drew, sz_drewN]; omega) | (simp only [sz_alloc, sz_set, sz_drew, sz_drewN] at *; omega)) _ | refine Below.drew ?_ | refine below_drewN_ ?_ _)), r2.up (by repeat (first | exact Below.refl _ _ | refine Below.alloc ?_ (by first | omega | (simp only [sz_alloc, sz_set, sz_drew, sz_drewN]; omega) | (simp only [sz_alloc, sz_set, sz_drew, sz_drewN] at *; omega)) _ | refine Below.setCell ?_ (by first | omega | (simp only [sz_alloc, sz_set, sz_drew, sz_drewN]; omega) | (simp only [sz_alloc, sz_set, sz_drew, sz_drewN] at *; omega)) _ | refine Below.drew ?_ | refine below_drewN_ ?_ _))⟩ hn).mono ?_
      rintro e w1 ⟨rfl, hb1⟩
      rw [HO.out]
      have HBw1 : Since w w1 := ⟨below_cat (by repeat (first | exact Below.refl _ _ | exact Since.out (by assumption) | refine Below.alloc ?_ (by first | omega | (simp only [sz_alloc, sz_set, sz_drew, sz_drewN]; omega) | (simp only [sz_alloc, sz_set, sz_drew, sz_drewN] at *; omega)) _ | refine Below.setCell ?_ (by first | omega | (simp only [sz_alloc, sz_set, sz_drew, sz_drewN]; omega) | (simp only [sz_alloc, sz_set, sz_drew, sz_drewN] at *; omega)) _ | refine Below.drew ?_ | refine below_drewN_ ?_ _)) hb1 (by first | omega | (simp only [sz_alloc, sz_set, sz_drew, sz_drewN]; omega) | (simp only [sz_alloc, sz_set, sz_drew, sz_drewN] at *; omega))⟩; have hzw1 := hb1.size; (try simp only [sz_alloc, sz_set, sz_drew, sz_drewN] at hzw1); have hcw1k0 := fun o => hb1.cell (p := ⟨w.heap.size, o, none⟩) (by first | omega | (simp only [sz_alloc, sz_set, sz_drew, sz_drewN]; omega) | (simp only [sz_alloc, sz_set, sz_drew, sz_drewN] at *; omega)); have hfw1k0 := fun o => hb1.frozen (p := ⟨w.heap.size, o, none⟩) (by first | omega | (simp only [sz_alloc, sz_set, sz_drew, sz_drewN]; omega) | (simp only [sz_alloc, sz_set, sz_drew, sz_drewN] at *; omega)); have hlw1k0 : w.heap.size < w1.heap.size := (by first | omega | (simp only [sz_alloc, sz_set, sz_drew, sz_drewN]; omega) | (simp only [sz_alloc, sz_set, sz_drew, sz_drewN] at *; omega)); have hcw1k1 := fun o => hb1.cell (p := ⟨w.heap.size + 1, o, none⟩) (by first | omega | (simp only [sz_alloc, sz_set, sz_drew, sz_drewN]; omega) | (simp only [sz_alloc, sz_set, sz_drew, sz_drewN] at *; omega)); have hfw1k1 := fun o => hb1.frozen (p := ⟨w.heap.size + 1, o, none⟩) (by first | omega | (simp only [sz_alloc, sz_set, sz_drew, sz_drewN]; omega) | (simp only [sz_alloc, sz_set, sz_drew, sz_drewN] at *; omega)); have hlw1k1 : w.heap.size + 1 < w1.heap.size := (by first | omega | (simp only [sz_alloc, sz_set, sz_drew, sz_drewN]; omega) | (simp only [sz_alloc, sz_set, sz_drew, sz_drewN] at *; omega))
      go_wp2
      exact bodyPost_ret (v := .tuple #[.agg #[.int .i64 0, .slice none 0 0, .slice none 0 0, .slice none 0 0], .int .i64 3]) (by simp [results, Try.results23, go_sem, hcw1k1]) rfl
        ⟨_, [], rfl, ⟨none, 0, none, 0, none, 0, [], [], [], rfl, .inl ⟨rfl, rfl⟩, .inl ⟨rfl, rfl⟩, .inl ⟨rfl, rfl⟩, rfl⟩, ⟨List.nodup_nil, fun g hg => by simp at hg⟩, (by repeat (first | exact Below.refl _ _ | exact Since.out (by assumption) | refine Below.alloc ?_ (by first | omega | (simp only [sz_alloc, sz_set, sz_drew, sz_drewN]; omega) | (simp only [sz_alloc, sz_set, sz_drew, sz_drewN] at *; omega)) _ | refine Below.setCell ?_ (by first | omega | (simp only [sz_alloc, sz_set, sz_drew, sz_drewN]; omega) | (simp only [sz_alloc, sz_set, sz_drew, sz_drewN] at *; omega)) _ | refine Below.drew ?_ | refine below_drewN_ ?_ _))⟩
  · have hok := Bool.not_eq_true _ |>.mp hok
    have hC : Hid (T.manyC = ⟨0, [], [], []⟩ ∧ T.manyCode = 1) := Lib.hid (by unfold Rr.manyC Rr.manyCode; simp [hok])
    rw [hC.out.1, hC.out.2]
    have HO := Lib.hid hok
    clear hok
    go_enter Try.func23, Try.ntmps23
    go_wp2_with fail
    refine (validReader_impl _ T _ ⟨A1, c1, A2, c2, rfl, r1.up (by repeat (first | exact Below.refl _ _ | refine Below.alloc ?_ (by first | omega | (simp only [sz_alloc, sz_set, sz_drew, sz_drewN]; omega) | (simp only [sz_alloc, sz_set, sz_drew, sz_drewN] at *; omega)) _ | refine Below.setCell ?_ (by first | omega | (simp only [sz_alloc, sz_set, sz_drew, sz_drewN]; omega) | (simp only [sz_alloc, sz_set, sz_drew, sz_drewN] at *; omega)) _ | refine Below.drew ?_ | refine below_drewN_ ?_ _)), r2.up (by repeat (first | exact Below.refl _ _ | refine Below.alloc ?_ (by first | omega | (simp only [sz_alloc, sz_set, sz_drew, sz_drewN]; omega) | (simp only [sz_alloc, sz_set, sz_drew, sz_drewN] at *; omega)) _ | refine Below.setCell ?_ (by first | omega | (simp only [sz_alloc, sz_set, sz_drew, sz_drewN]; omega) | (simp only [sz_alloc, sz_set, sz_drew, sz_drewN] at *; omega)) _ | refine Below.drew ?_ | refine below_drewN_ ?_ _))⟩ hn).mono ?_
    rintro e w1 ⟨rfl, hb1⟩
    rw [HO.out]
    have HBw1 : Since w w1 := ⟨below_cat (by repeat (first | exact Below.refl _ _ | exact Since.out (by assumption) | refine Below.alloc ?_ (by first | omega | (simp only [sz_alloc, sz_set, sz_drew, sz_drewN]; omega) | (simp only [sz_alloc, sz_set, sz_drew, sz_drewN] at *; omega)) _ | refine Below.setCell ?_ (by first | omega | (simp only [sz_alloc, sz_set, sz_drew, sz_drewN]; omega) | (simp only [sz_alloc, sz_set, sz_drew, sz_drewN] at *; omega)) _ | refine Below.drew ?_ | refine below_drewN_ ?_ _)) hb1 (by first | omega | (simp only [sz_alloc, sz_set, sz_drew, sz_drewN]; omega) | (simp only [sz_alloc, sz_set, sz_drew, sz_drewN] at *; omega))⟩; have hzw1 := hb1.size; (try simp only [sz_alloc, sz_set, sz_drew, sz_drewN] at hzw1); have hcw1k0 := fun o => hb1.cell (p := ⟨w.heap.size, o, none⟩) (by first | omega | (simp only [sz_alloc, sz_set, sz_drew, sz_drewN]; omega) | (simp only [sz_alloc, sz_set, sz_drew, sz_drewN] at *; omega)); have hfw1k0 := fun o => hb1.frozen (p := ⟨w.heap.size, o, none⟩) (by first | omega | (simp only [sz_alloc, sz_set, sz_drew, sz_drewN]; omega) | (simp only [sz_alloc, sz_set, sz_drew, sz_drewN] at *; omega)); have hlw1k0 : w.heap.size < w1.heap.size := (by first | omega | (simp only [sz_alloc, sz_set, sz_drew, sz_drewN]; omega) | (simp only [sz_alloc, sz_set, sz_drew, sz_drewN] at *; omega)); have hcw1k1 := fun o => hb1.cell (p := ⟨w.heap.size + 1, o, none⟩) (by first | omega | (simp only [sz_alloc, sz_set, sz_drew, sz_drewN]; omega) | (simp only [sz_alloc, sz_set, sz_drew, sz_drewN] at *; omega)); have hfw1k1 := fun o => hb1.frozen (p := ⟨w.heap.size + 1, o, none⟩) (by first | omega | (simp only [sz_alloc, sz_set, sz_drew, sz_drewN]; omega) | (simp only [sz_alloc, sz_set, sz_drew, sz_drewN] at *; omega)); have hlw1k1 : w.heap.size + 1 < w1.heap.size := (by first | omega | (simp only [sz_alloc, sz_set, sz_drew, sz_drewN]; omega) | (simp only [sz_alloc, sz_set, sz_drew, sz_drewN] at *; omega))
    go_wp2
    exact bodyPost_ret (v := .tuple #[.agg #[.int .i64 0, .slice none 0 0, .slice none 0 0, .slice none 0 0], .int .i64 1]) (by simp [results, Try.results23, go_sem, hcw1k1]) rfl
      ⟨_, [], rfl, ⟨none, 0, none, 0, none, 0, [], [], [], rfl, .inl ⟨rfl, rfl⟩, .inl ⟨rfl, rfl⟩, .inl ⟨rfl, rfl⟩, rfl⟩, ⟨List.nodup_nil, fun g hg => by simp at hg⟩, (by repeat (first | exact Below.refl _ _ | exact Since.out (by assumption) | refine Below.alloc ?_ (by first | omega | (simp only [sz_alloc, sz_set, sz_drew, sz_drewN]; omega) | (simp only [sz_alloc, sz_set, sz_drew, sz_drewN] at *; omega)) _ | refine Below.setCell ?_ (by first | omega | (simp only [sz_alloc, sz_set, sz_drew, sz_drewN]; omega) | (simp only [sz_alloc, sz_set, sz_drew, sz_drewN] at *; omega)) _ | refine Below.drew ?_ | refine below_drewN_ ?_ _))⟩
end Go.Proofs.Ytepjgaakihhngaa
