/-
  Contract of the reference's automaton of the turned words. Conditions: those in each statement.
-/
import Derived.Test.YtepjgaakihhngaaTurnLaw
import Derived.Test.YtepjgaakihhngaaTail
set_option linter.unusedVariables false
set_option linter.unusedSimpArgs false
set_option maxRecDepth 100000
set_option maxHeartbeats 1000000
namespace Go.Proofs.Ytepjgaakihhngaa
open Go.RowKit

theorem l00Has (A : Option Addr) (xs : List Int) (c : Nat) (n : Int) (r : Bool) (w : World) (h1 : RdS w w.heap.size A xs) (hl : xs.length ≤ 9223372036854775807) (hr : hasB n xs = r) :
    Calls Try.prog 137 #[.slice A xs.length c, .int .i64 n] w fun e w' => e = .returned (.bool r) ∧ w = w' := by
  have HR := Lib.hid hr
  clear hr
  go_enter Try.func137, Try.ntmps137
  go_wp2
  go_loop [5] (fun i => ∃ k : Nat, k ≤ xs.length ∧ i = .int .i64 k ∧ Hid (hasB n xs = hasB n (xs.drop k))) (fun i => xs.length - (intOf i).toNat)
  case atStart => exact ⟨0, Nat.zero_le _, rfl, Lib.hid (by simp)⟩
  case round =>
    obtain ⟨k, hk, rfl, heq⟩ := hrel
    by_cases hlt : k < xs.length
    · obtain ⟨x, hx⟩ := get_some hlt
      obtain ⟨b, o, rfl, hbb, cx⟩ := h1.int hx
      have i1 : (0 : Int) ≤ (k : Int) := by omega
      have i2 : (k : Int) < (xs.length : Int) := by omega
      have he : Hid (hasB n xs = (decide (x = n) || hasB n (xs.drop (k + 1)))) := Lib.hid (by rw [heq.out, drop_cons hx]; rfl)
      clear hx heq
      by_cases hxn : x = n
      · have e1 : (x == n) = true := by simp [hxn]
        have E1 := Lib.hid hxn
        clear hxn
        go_wp2
        go_ret
        exact ⟨ret_bool (by rw [← HR.out, he.out, E1.out]; simp), rfl⟩
      · have e1 : (x == n) = false := by simp [hxn]
        have E1 := Lib.hid hxn
        clear hxn
        go_wp2
        go_round
        case rel => exact ⟨k + 1, by omega, by go_num, Lib.hid (by rw [he.out]; simp [E1.out])⟩
        case measure => simp [intOf]; omega
    · go_wp2
      go_ret
      exact ⟨ret_bool (by rw [← HR.out, heq.out, List.drop_eq_nil_of_le (by omega)]; rfl), rfl⟩

set_option maxHeartbeats 8000000 in
theorem l01Turn (b : Nat) (As Aa An : Option Addr) (cs ca cn : Nat) (T : Mn) (w : World) (q0 : w.cell? ⟨b, 0, none⟩ = some (.int .i64 T.letters)) (q1 : w.cell? ⟨b, 1, none⟩ = some (.slice As T.starts.length cs)) (q2 : w.cell? ⟨b, 2, none⟩ = some (.slice Aa T.accept.length ca)) (q3 : w.cell? ⟨b, 3, none⟩ = some (.slice An T.next.length cn)) (hbw : b < w.heap.size)
    (rs : RdS w w.heap.size As T.starts) (ra : RdS w w.heap.size Aa T.accept) (rn : RdS w w.heap.size An T.next) (hls : T.starts.length ≤ 9223372036854775807) (OK : T.Ok) :
    Calls Try.prog 96 #[.pointer (some ⟨b, 0, none⟩)] w (RetMn T.turn w) := by
  obtain ⟨letters, starts, accept, next⟩ := T
  obtain ⟨l1, l3, n1, n10, hsame, hst, hrow⟩ := OK
  simp only at *
  obtain ⟨l, rfl⟩ := Int.eq_ofNat_of_zero_le (show 0 ≤ letters by omega)
  have hl3 : l ≤ 3 := by omega
  have hn10 : next.length ≤ 10 := by omega
  have HS := Lib.hid hsame
  have HR : Hid (∀ r ∈ next, r.length = l ∧ True) := Lib.hid fun r hr => ⟨by have := (hrow r hr).1; omega, trivial⟩
  have Q0 := Lib.hid q0
  have Q1 := Lib.hid q1
  have Q2 := Lib.hid q2
  have Q3 := Lib.hid q3
  clear hsame hrow hst q1 q2 q3
  go_enter Try.func96, Try.ntmps96
  go_wp2
  clear q0
  go_loopw [4] (fun i wr => ∃ (s : Nat) (A1 : Option Addr) (k1 c1 : Nat) (A2 : Option Addr) (c2 : Nat) (A3 : Option Addr) (c3 : Nat) (bs : List Nat), s ≤ accept.length ∧ i = .int .i64 s ∧
      Hid (Acc3 wr (w.heap.size + 2) 2 4 42 A1 k1 c1 (turnStarts accept s) A2 s c2 (turnAcc starts s) A3 s c3 (turnNext next accept.length l s) bs ∧
        wr.heap[w.heap.size + 1]? = some (.cells #[.int .i64 l, .slice A1 k1 c1, .slice A2 s c2, .slice A3 s c3] 48 (0, 0)) ∧
        wr.heap[w.heap.size]? = some (.cells #[.int .i64 0, .slice none 0 0, .slice none 0 0, .slice none 0 0] 48 (0, 0))) ∧ Since w wr ∧ w.heap.size + 2 ≤ wr.heap.size) (fun i _ => accept.length - (intOf i).toNat)
  case atStart => exact ⟨0, none, 0, 0, none, 0, none, 0, [], Nat.zero_le _, rfl, Lib.hid ⟨Acc3.nil_ _ _ _ _ _, new_block (by simp), alloc_block (new_block rfl) (by simp)⟩, ⟨(by repeat (first | exact Below.refl _ _ | refine Below.alloc ?_ (by first | omega | (simp only [sz_alloc, sz_set, sz_drew, sz_drewN]; omega) | (simp only [sz_alloc, sz_set, sz_drew, sz_drewN] at *; omega)) _ | refine Below.setCell ?_ (by first | omega | (simp only [sz_alloc, sz_set, sz_drew, sz_drewN]; omega) | (simp only [sz_alloc, sz_set, sz_drew, sz_drewN] at *; omega)) _ | refine Below.drew ?_ | refine below_drewN_ ?_ _))⟩, (by first | omega | (simp only [sz_alloc, sz_set, sz_drew, sz_drewN]; omega) | (simp only [sz_alloc, sz_set, sz_drew, sz_drewN] at *; omega))⟩
  case round =>
    obtain ⟨s, A1, k1, c1, A2, c2, A3, c3, bs, hs0, rfl, H, hs, hzr⟩ := hrel
    obtain ⟨wo, rfl⟩ : ∃ wo, wo = wr := ⟨_, rfl⟩
    have hk1 : k1 ≤ s := by have := H.out.1.one.len; have := turnStarts_le accept s; omega
    have p2 := (hs.out.cell (p := ⟨b, 2, none⟩) hbw).trans Q2.out
    have hbo : b < wo.heap.size := Nat.lt_of_lt_of_le hbw hs.out.size
    by_cases hlt : s < accept.length
    · obtain ⟨bt, hbt⟩ := get_some hlt
      obtain ⟨ba, oa, rfl, hba, ca1⟩ := (ra.up hs.out).bool hbt
      have i2 : (0 : Int) ≤ (s : Int) := by omega
      have i3 : (s : Int) < (accept.length : Int) := by omega
      cases bt with
      | true =>
        have HT := Lib.hid (turnStarts_yes hbt)
        clear hbt
        have kk1 : wo.cell? ⟨w.heap.size + 1, 1, none⟩ = some (.slice A1 k1 c1) := cell_of_row wo _ 1 _ _ (0, 0) H.out.2.1
        have hoo : w.heap.size + 1 < wo.heap.size := by omega
        have HA3 : Hid (Acc3 (wo.alloc (.cells #[.int .i64 s] 2)) (w.heap.size + 2) 2 4 42 A1 k1 c1 (turnStarts accept s) A2 s c2 (turnAcc starts s) A3 s c3 (turnNext next accept.length l s) bs) := Lib.hid (H.out.1.below (C := wo.heap.size) (by repeat (first | exact Below.refl _ _ | refine Below.alloc ?_ (by first | omega | (simp only [sz_alloc, sz_set, sz_drew, sz_drewN]; omega) | (simp only [sz_alloc, sz_set, sz_drew, sz_drewN] at *; omega)) _ | refine Below.setCell ?_ (by first | omega | (simp only [sz_alloc, sz_set, sz_drew, sz_drewN]; omega) | (simp only [sz_alloc, sz_set, sz_drew, sz_drewN] at *; omega)) _ | refine Below.drew ?_ | refine below_drewN_ ?_ _)) (Nat.le_refl _))
        go_wp2_with (at_builtin; refine wpList_push (α := Int) _ rfl (.tmp 31) (.tmp 33) 26 rfl (w.heap.size + 2) 2 (.int .i64 0) 8 Try.underlying26 infoInt64S rfl A1 k1 c1 _ [] rfl HA3.out.one wo.heap.size 1 rfl (s : Int) [.int .i64 s] [] ⟨rfl, rfl⟩ (new_cells (by first | rfl | simp [sz_set])) (fun u hu => by (simp at hu; subst hu; rfl)) ⟨List.nodup_nil, fun g hg => by simp at hg⟩ (fun g hg => by simp at hg) (by omega) (by omega) (by first | omega | (simp only [sz_alloc, sz_set, sz_drew, sz_drewN]; omega) | (simp only [sz_alloc, sz_set, sz_drew, sz_drewN] at *; omega)) ?_
                     intro B1 d1 w6 hacc hgr hnew
                     have hB1 := HA3.out.one.box hgr (alloc_block H.out.2.1 hoo) (by omega)
                     have hB2 := HA3.out.one.box hgr (alloc_block H.out.2.2 (by omega)) (by omega)
                     have f1 : w6.frozen? ⟨w.heap.size + 1, 1, none⟩ = false := blk_free hB1
                     have k9 : w6.cell? ⟨w.heap.size + 1, 1, none⟩ = some (.slice A1 k1 c1) := cell_of_row w6 _ 1 _ _ (0, 0) hB1
                     have hz9 : w.heap.size + 2 ≤ w6.heap.size := by have := hgr.size; simp only [sz_alloc] at this; omega
                     have HS9 : Since w w6 := ⟨Acc.since HA3.out.one hgr (below_cat hs.out (by repeat (first | exact Below.refl _ _ | exact Since.out (by assumption) | refine Below.alloc ?_ (by first | omega | (simp only [sz_alloc, sz_set, sz_drew, sz_drewN]; omega) | (simp only [sz_alloc, sz_set, sz_drew, sz_drewN] at *; omega)) _ | refine Below.setCell ?_ (by first | omega | (simp only [sz_alloc, sz_set, sz_drew, sz_drewN]; omega) | (simp only [sz_alloc, sz_set, sz_drew, sz_drewN] at *; omega)) _ | refine Below.drew ?_ | refine below_drewN_ ?_ _)) hs.out.size) (by omega) (by first | omega | (simp only [sz_alloc, sz_set, sz_drew, sz_drewN]; omega) | (simp only [sz_alloc, sz_set, sz_drew, sz_drewN] at *; omega))⟩
                     have HA := Lib.hid (HA3.out.grow1 hacc hgr hnew)
                     have HB1 := Lib.hid hB1
                     have HB2 := Lib.hid hB2
                     clear hacc hgr hnew hB1 hB2)
        obtain ⟨m1', hm1⟩ : ∃ m, m = k1 + 1 := ⟨_, rfl⟩
        rw [← hm1] at HA
        obtain ⟨W, hW⟩ : ∃ W, W = w6.setCell ⟨w.heap.size + 1, 1, none⟩ (.slice B1 (k1 + 1) d1) := ⟨_, rfl⟩
        rw [← hW]
        have H6 : Hid (Acc3 W (w.heap.size + 2) 2 4 42 B1 m1' d1 (turnStarts accept (s + 1)) A2 s c2 (turnAcc starts s) A3 s c3 (turnNext next accept.length l s) bs) := Lib.hid (by rw [hW, HT.out]; exact HA.out.setCell (by simp) _)
        have Q6 : Hid (W.heap[w.heap.size + 1]? = some (.cells #[.int .i64 l, .slice B1 m1' d1, .slice A2 s c2, .slice A3 s c3] 48 (0, 0))) := Lib.hid (by rw [hW, hm1]; exact blk_set (i := 1) HB1.out _)
        have R6 : Hid (W.heap[w.heap.size]? = some (.cells #[.int .i64 0, .slice none 0 0, .slice none 0 0, .slice none 0 0] 48 (0, 0))) := Lib.hid (by rw [hW]; exact blk_far HB2.out (by simp) _)
        have S6 : Since w W := ⟨by rw [hW]; exact HS9.out.setCell (by simp) _⟩
        have hbS : w.heap.size ≤ W.heap.size := S6.out.size
        have hzW : w.heap.size + 2 ≤ W.heap.size := by rw [hW, sz_set]; exact hz9
        clear HA HB1 HB2 HA3 hW f1 k9 hm1
        have hz6 : w.heap.size + 2 ≤ W.heap.size := hzW
        have m1 := (S6.out.cell (p := ⟨b, 1, none⟩) hbw).trans Q1.out
        have k2 : W.cell? ⟨w.heap.size + 1, 2, none⟩ = some (.slice A2 s c2) := cell_of_row W _ 2 _ _ (0, 0) Q6.out
        have hbW : b < W.heap.size := Nat.lt_of_lt_of_le hbw S6.out.size
        have hoW : w.heap.size + 1 < W.heap.size := by omega
        have hrW : w.heap.size < W.heap.size := by omega
        refine Held.begin (fun w' => w'.cell? ⟨w.heap.size + 1, 2, none⟩ = some (.slice A2 s c2) ∧ w'.cell? ⟨b, 1, none⟩ = some (.slice As starts.length cs)) 10 (by kernel_rfl) (by (try dsimp only); (first | (go_keep; done) | (and_intros <;> go_simp))) (fun hHeld => ?_); (first | (refine Held.take (i := 0) (v := undef) (by (simp only [List.getElem?_toArray, List.getElem?_cons_succ, List.getElem?_cons_zero]); exact rfl) (by decide) (by kernel_rfl) (by kernel_rfl) (by kernel_rfl) (by kernel_rfl) (by exact fun _ _ _ h => h) (by exact Or.inr ⟨by rfl, rfl⟩) (by assumption) ?_) | (refine Held.take (i := 0) (v := ?_) (by (simp only [List.getElem?_toArray, List.getElem?_cons_succ, List.getElem?_cons_zero]); exact rfl) (by decide) (by kernel_rfl) (by kernel_rfl) (by kernel_rfl) (by kernel_rfl) (by exact fun _ _ _ h => h) (by refine Or.inl ⟨by rfl, ?_⟩; intro wS hSw; (try dsimp only at hSw); go_simp; (try with_reducible rfl)) (by assumption) ?_)); (try simp only [Act.put, List.setIfInBounds_toArray, List.set_cons_zero, List.set_cons_succ]); (first | (refine Held.take (i := 1) (v := undef) (by (simp only [List.getElem?_toArray, List.getElem?_cons_succ, List.getElem?_cons_zero]); exact rfl) (by decide) (by kernel_rfl) (by kernel_rfl) (by kernel_rfl) (by kernel_rfl) (by exact fun _ _ _ h => h) (by exact Or.inr ⟨by rfl, rfl⟩) (by assumption) ?_) | (refine Held.take (i := 1) (v := ?_) (by (simp only [List.getElem?_toArray, List.getElem?_cons_succ, List.getElem?_cons_zero]); exact rfl) (by decide) (by kernel_rfl) (by kernel_rfl) (by kernel_rfl) (by kernel_rfl) (by exact fun _ _ _ h => h) (by refine Or.inl ⟨by rfl, ?_⟩; intro wS hSw; (try dsimp only at hSw); go_simp; (try with_reducible rfl)) (by assumption) ?_)); (try simp only [Act.put, List.setIfInBounds_toArray, List.set_cons_zero, List.set_cons_succ]); (first | (refine Held.take (i := 2) (v := undef) (by (simp only [List.getElem?_toArray, List.getElem?_cons_succ, List.getElem?_cons_zero]); exact rfl) (by decide) (by kernel_rfl) (by kernel_rfl) (by kernel_rfl) (by kernel_rfl) (by exact fun _ _ _ h => h) (by exact Or.inr ⟨by rfl, rfl⟩) (by assumption) ?_) | (refine Held.take (i := 2) (v := ?_) (by (simp only [List.getElem?_toArray, List.getElem?_cons_succ, List.getElem?_cons_zero]); exact rfl) (by decide) (by kernel_rfl) (by kernel_rfl) (by kernel_rfl) (by kernel_rfl) (by exact fun _ _ _ h => h) (by refine Or.inl ⟨by rfl, ?_⟩; intro wS hSw; (try dsimp only at hSw); go_simp; (try with_reducible rfl)) (by assumption) ?_)); (try simp only [Act.put, List.setIfInBounds_toArray, List.set_cons_zero, List.set_cons_succ]); (first | (refine Held.take (i := 3) (v := undef) (by (simp only [List.getElem?_toArray, List.getElem?_cons_succ, List.getElem?_cons_zero]); exact rfl) (by decide) (by kernel_rfl) (by kernel_rfl) (by kernel_rfl) (by kernel_rfl) (by exact fun _ _ _ h => h) (by exact Or.inr ⟨by rfl, rfl⟩) (by assumption) ?_) | (refine Held.take (i := 3) (v := ?_) (by (simp only [List.getElem?_toArray, List.getElem?_cons_succ, List.getElem?_cons_zero]); exact rfl) (by decide) (by kernel_rfl) (by kernel_rfl) (by kernel_rfl) (by kernel_rfl) (by exact fun _ _ _ h => h) (by refine Or.inl ⟨by rfl, ?_⟩; intro wS hSw; (try dsimp only at hSw); go_simp; (try with_reducible rfl)) (by assumption) ?_)); (try simp only [Act.put, List.setIfInBounds_toArray, List.set_cons_zero, List.set_cons_succ]); (first | (refine Held.take (i := 4) (v := undef) (by (simp only [List.getElem?_toArray, List.getElem?_cons_succ, List.getElem?_cons_zero]); exact rfl) (by decide) (by kernel_rfl) (by kernel_rfl) (by kernel_rfl) (by kernel_rfl) (by exact fun _ _ _ h => h) (by exact Or.inr ⟨by rfl, rfl⟩) (by assumption) ?_) | (refine Held.take (i := 4) (v := ?_) (by (simp only [List.getElem?_toArray, List.getElem?_cons_succ, List.getElem?_cons_zero]); exact rfl) (by decide) (by kernel_rfl) (by kernel_rfl) (by kernel_rfl) (by kernel_rfl) (by exact fun _ _ _ h => h) (by refine Or.inl ⟨by rfl, ?_⟩; intro wS hSw; (try dsimp only at hSw); go_simp; (try with_reducible rfl)) (by assumption) ?_)); (try simp only [Act.put, List.setIfInBounds_toArray, List.set_cons_zero, List.set_cons_succ]); (first | (refine Held.take (i := 5) (v := undef) (by (simp only [List.getElem?_toArray, List.getElem?_cons_succ, List.getElem?_cons_zero]); exact rfl) (by decide) (by kernel_rfl) (by kernel_rfl) (by kernel_rfl) (by kernel_rfl) (by exact fun _ _ _ h => h) (by exact Or.inr ⟨by rfl, rfl⟩) (by assumption) ?_) | (refine Held.take (i := 5) (v := ?_) (by (simp only [List.getElem?_toArray, List.getElem?_cons_succ, List.getElem?_cons_zero]); exact rfl) (by decide) (by kernel_rfl) (by kernel_rfl) (by kernel_rfl) (by kernel_rfl) (by exact fun _ _ _ h => h) (by refine Or.inl ⟨by rfl, ?_⟩; intro wS hSw; (try dsimp only at hSw); go_simp; (try with_reducible rfl)) (by assumption) ?_)); (try simp only [Act.put, List.setIfInBounds_toArray, List.set_cons_zero, List.set_cons_succ]); (first | (refine Held.take (i := 6) (v := undef) (by (simp only [List.getElem?_toArray, List.getElem?_cons_succ, List.getElem?_cons_zero]); exact rfl) (by decide) (by kernel_rfl) (by kernel_rfl) (by kernel_rfl) (by kernel_rfl) (by exact fun _ _ _ h => h) (by exact Or.inr ⟨by rfl, rfl⟩) (by assumption) ?_) | (refine Held.take (i := 6) (v := ?_) (by (simp only [List.getElem?_toArray, List.getElem?_cons_succ, List.getElem?_cons_zero]); exact rfl) (by decide) (by kernel_rfl) (by kernel_rfl) (by kernel_rfl) (by kernel_rfl) (by exact fun _ _ _ h => h) (by refine Or.inl ⟨by rfl, ?_⟩; intro wS hSw; (try dsimp only at hSw); go_simp; (try with_reducible rfl)) (by assumption) ?_)); (try simp only [Act.put, List.setIfInBounds_toArray, List.set_cons_zero, List.set_cons_succ]); refine Held.one (i := 7) (by (simp only [List.getElem?_toArray, List.getElem?_cons_succ, List.getElem?_cons_zero]); exact rfl) (by kernel_rfl) (fun K hK => ?_); (go_simp; refine (l00Has As starts cs s (hasB s starts) _ ((rs.below (w' := W.drew) S6.out.drew (Nat.le_refl _)).more hbS) hls rfl).mono ?_; rintro e w7 ⟨rfl, rfl⟩; go_wp2_with fail); refine hK.out _ _ (by (try dsimp only); (first | (go_keep; done) | (and_intros <;> go_simp))) (fun hHeld => ?_); clear hK K; (try simp only [Act.put, List.setIfInBounds_toArray, List.set_cons_zero, List.set_cons_succ]); refine Held.one (i := 8) (by (simp only [List.getElem?_toArray, List.getElem?_cons_succ, List.getElem?_cons_zero]); exact rfl) (by kernel_rfl) (fun K hK => ?_); go_simp; refine hK.out _ _ (by (try dsimp only); (first | (go_keep; done) | (and_intros <;> go_simp))) (fun hHeld => ?_); clear hK K; (try simp only [Act.put, List.setIfInBounds_toArray, List.set_cons_zero, List.set_cons_succ]); refine Held.one (i := 9) (by (simp only [List.getElem?_toArray, List.getElem?_cons_succ, List.getElem?_cons_zero]); exact rfl) (by kernel_rfl) (fun K hK => ?_); (refine step_push (α := Bool) _ (by rfl) (.tmp 37) (.tmp 44) 41 (by rfl) (w.heap.size + 2) 4 (.bool false) 1 Try.underlying41 infoBoolS rfl A2 s c2 _ [] (by rfl) ((H6.out.two.drew).alloc _) W.heap.size 1 (by rfl) (hasB s starts) [.bool (hasB s starts)] [] ⟨rfl, rfl⟩ (fun j u hu => new_cells (w := W) rfl j u hu) (fun u hu => by (simp at hu; subst hu; rfl)) ⟨List.nodup_nil, fun g hg => by simp at hg⟩ (fun g hg => by simp at hg) (by omega) (by omega) (by first | omega | (simp only [sz_alloc, sz_set, sz_drew, sz_drewN]; omega) | (simp only [sz_alloc, sz_set, sz_drew, sz_drewN] at *; omega)) ?_; intro D2 d2 w8 hacc hgr hnew; have hB1 := Lib.hid (Acc.box (H6.out.two.drew.alloc _) hgr (alloc_block Q6.out hoW) (by omega)); have hB2 := Lib.hid (Acc.box (H6.out.two.drew.alloc _) hgr (alloc_block R6.out hrW) (by omega)); have qe0 := (hgr.cell_far ⟨b, 1, none⟩ (by first | omega | (simp only [sz_alloc, sz_set, sz_drew, sz_drewN]; omega) | (simp only [sz_alloc, sz_set, sz_drew, sz_drewN] at *; omega)) (H6.out.two.far (by show b < _; omega))).trans (show (World.alloc _ _).cell? _ = some (.slice As starts.length cs) by go_simp); have q2 : w8.cell? ⟨w.heap.size + 1, 2, none⟩ = some (.slice A2 s c2) := cell_of_row w8 _ 2 _ _ (0, 0) hB1.out; have f2 : w8.frozen? ⟨w.heap.size + 1, 2, none⟩ = false := blk_free hB1.out; have HA := Lib.hid hacc; have HG := Lib.hid hgr; have HN := Lib.hid hnew; clear hacc hgr hnew); refine hK.out _ _ (by (try dsimp only); (first | (go_keep; done) | (and_intros <;> go_simp))) (fun hHeld => ?_); clear hK K; (try simp only [Act.put, List.setIfInBounds_toArray, List.set_cons_zero, List.set_cons_succ]); refine Held.last (i := 10) (by (simp only [List.getElem?_toArray, List.getElem?_cons_succ, List.getElem?_cons_zero]); exact rfl) (by decide) (by kernel_rfl) (fun K hK => ?_); go_simp; refine hK.out _ _ ?_; clear hK K; (try simp only [Act.put, List.setIfInBounds_toArray, List.set_cons_zero, List.set_cons_succ]); refine Held.last (i := 11) (by (simp only [List.getElem?_toArray, List.getElem?_cons_succ, List.getElem?_cons_zero]); exact rfl) (by decide) (by kernel_rfl) (fun K hK => ?_); go_simp; refine hK.out _ _ ?_; clear hK K; (try simp only [Act.put, List.setIfInBounds_toArray, List.set_cons_zero, List.set_cons_succ]); refine Held.done (by kernel_rfl) ?_ _
        obtain ⟨W8, hW8⟩ : ∃ W8, W8 = w8.setCell ⟨w.heap.size + 1, 2, none⟩ (.slice D2 (s + 1) d2) := ⟨_, rfl⟩
        rw [← hW8]
        have H8 : Hid (Acc3 W8 (w.heap.size + 2) 2 4 42 B1 m1' d1 (turnStarts accept (s + 1)) D2 (s + 1) d2 (turnAcc starts (s + 1)) A3 s c3 (turnNext next accept.length l s) bs) := Lib.hid (by
          rw [hW8, turnAcc_snoc]
          exact ((((H6.out.below (w' := W.drew) (C := W.heap.size) (by repeat (first | exact Below.refl _ _ | refine Below.alloc ?_ (by first | omega | (simp only [sz_alloc, sz_set, sz_drew, sz_drewN]; omega) | (simp only [sz_alloc, sz_set, sz_drew, sz_drewN] at *; omega)) _ | refine Below.setCell ?_ (by first | omega | (simp only [sz_alloc, sz_set, sz_drew, sz_drewN]; omega) | (simp only [sz_alloc, sz_set, sz_drew, sz_drewN] at *; omega)) _ | refine Below.drew ?_ | refine below_drewN_ ?_ _)) (Nat.le_refl _)).below (w' := W.drew.alloc _) (C := W.heap.size) (by repeat (first | exact Below.refl _ _ | refine Below.alloc ?_ (by first | omega | (simp only [sz_alloc, sz_set, sz_drew, sz_drewN]; omega) | (simp only [sz_alloc, sz_set, sz_drew, sz_drewN] at *; omega)) _ | refine Below.setCell ?_ (by first | omega | (simp only [sz_alloc, sz_set, sz_drew, sz_drewN]; omega) | (simp only [sz_alloc, sz_set, sz_drew, sz_drewN] at *; omega)) _ | refine Below.drew ?_ | refine below_drewN_ ?_ _)) (Nat.le_refl _)).grow2 HA.out HG.out HN.out)).setCell (by simp) _)
        have Q8 : Hid (W8.heap[w.heap.size + 1]? = some (.cells #[.int .i64 l, .slice B1 m1' d1, .slice D2 (s + 1) d2, .slice A3 s c3] 48 (0, 0))) := Lib.hid (by rw [hW8]; exact blk_set (i := 2) hB1.out _)
        have R8 : Hid (W8.heap[w.heap.size]? = some (.cells #[.int .i64 0, .slice none 0 0, .slice none 0 0, .slice none 0 0] 48 (0, 0))) := Lib.hid (by rw [hW8]; exact blk_far hB2.out (by simp) _)
        have S8 : Since w W8 := ⟨by
          rw [hW8]
          exact (Acc.since (H6.out.two.drew.alloc _) HG.out (by repeat (first | exact Below.refl _ _ | exact Since.out (by assumption) | refine Below.alloc ?_ (by first | omega | (simp only [sz_alloc, sz_set, sz_drew, sz_drewN]; omega) | (simp only [sz_alloc, sz_set, sz_drew, sz_drewN] at *; omega)) _ | refine Below.setCell ?_ (by first | omega | (simp only [sz_alloc, sz_set, sz_drew, sz_drewN]; omega) | (simp only [sz_alloc, sz_set, sz_drew, sz_drewN] at *; omega)) _ | refine Below.drew ?_ | refine below_drewN_ ?_ _)) (by omega) (by first | omega | (simp only [sz_alloc, sz_set, sz_drew, sz_drewN]; omega) | (simp only [sz_alloc, sz_set, sz_drew, sz_drewN] at *; omega))).setCell (by simp) _⟩
        have hz8 : w.heap.size + 2 ≤ W8.heap.size := by rw [hW8]; have := HG.out.size; simp only [sz_alloc, sz_set, sz_drew, sz_drewN] at *; omega
        clear HA HG HN hB1 hB2 q2 f2 qe0 hW8
        have e0 := (S8.out.cell (p := ⟨b, 0, none⟩) hbw).trans Q0.out
        have e3 := (S8.out.cell (p := ⟨b, 3, none⟩) hbw).trans Q3.out
        have hb8 : b < W8.heap.size := Nat.lt_of_lt_of_le hbw S8.out.size
        go_wp2
        go_loopw [5, 6] (fun rv i wi => ∃ (a : Nat) (A' : Option Addr) (c' : Nat) (bs' : List Nat), a ≤ l ∧ i = .int .i64 a ∧ rv = .slice A' a c' ∧ Hid (Acc wi W8.heap.size 26 A' a c' (turnRow next accept.length s a) bs') ∧ Since W8 wi) (fun _ i _ => l - (intOf i).toNat)
        case atStart => exact ⟨0, _, _, [], Nat.zero_le _, rfl, rfl, Lib.hid (Acc.empty_ (new_block rfl) (Nat.le_refl _)), ⟨(by repeat (first | exact Below.refl _ _ | refine Below.alloc ?_ (by first | omega | (simp only [sz_alloc, sz_set, sz_drew, sz_drewN]; omega) | (simp only [sz_alloc, sz_set, sz_drew, sz_drewN] at *; omega)) _ | refine Below.setCell ?_ (by first | omega | (simp only [sz_alloc, sz_set, sz_drew, sz_drewN]; omega) | (simp only [sz_alloc, sz_set, sz_drew, sz_drewN] at *; omega)) _ | refine Below.drew ?_ | refine below_drewN_ ?_ _))⟩⟩
        case round =>
          obtain ⟨a, A', c', bs', ha, rfl, rfl, H9, hs9⟩ := hrel
          obtain ⟨wi, rfl⟩ : ∃ wi, wi = wr := ⟨_, rfl⟩
          have hzi := hs9.out.size
          have g0 := (hs9.out.cell (p := ⟨b, 0, none⟩) hb8).trans e0
          have g3 := (hs9.out.cell (p := ⟨b, 3, none⟩) hb8).trans e3
          have hbi : b < wi.heap.size := by omega
          by_cases hlta : a < l
          · go_wp2
            go_loopw [7, 8] (fun fv i wj => ∃ (t m : Nat) (A'' : Option Addr) (c'' : Nat), t ≤ next.length ∧ i = .int .i64 t ∧ fv = .slice A'' m c'' ∧ m ≤ t ∧ Hid (Acc wj wi.heap.size 2 A'' m c'' (fromL next a s t) []) ∧ Since wi wj) (fun _ i _ => next.length - (intOf i).toNat)
            case atStart => exact ⟨0, 0, _, _, Nat.zero_le _, rfl, rfl, Nat.le_refl _, Lib.hid (Acc.empty_ (new_block rfl) (Nat.le_refl _)), ⟨(by repeat (first | exact Below.refl _ _ | refine Below.alloc ?_ (by first | omega | (simp only [sz_alloc, sz_set, sz_drew, sz_drewN]; omega) | (simp only [sz_alloc, sz_set, sz_drew, sz_drewN] at *; omega)) _ | refine Below.setCell ?_ (by first | omega | (simp only [sz_alloc, sz_set, sz_drew, sz_drewN]; omega) | (simp only [sz_alloc, sz_set, sz_drew, sz_drewN] at *; omega)) _ | refine Below.drew ?_ | refine below_drewN_ ?_ _))⟩⟩
            case round =>
              obtain ⟨t, m, A'', c'', ht, rfl, rfl, hmt, HF, hsj⟩ := hrel
              obtain ⟨wj, rfl⟩ : ∃ wj, wj = wr := ⟨_, rfl⟩
              have hzj := hsj.out.size
              have SJ : Since w wj := ⟨below_cat S8.out (below_cat hs9.out hsj.out hs9.out.size) S8.out.size⟩
              have j0 := (SJ.out.cell (p := ⟨b, 0, none⟩) hbw).trans Q0.out
              have j3 := (SJ.out.cell (p := ⟨b, 3, none⟩) hbw).trans Q3.out
              have hbj : b < wj.heap.size := by omega
              by_cases hltt : t < next.length
              · obtain ⟨row, hrow⟩ := get_some hltt
                obtain ⟨hrl, -⟩ := HR.out row (List.mem_of_getElem? hrow)
                obtain ⟨x, hx⟩ := get_some (xs := row) (k := a) (by omega)
                obtain ⟨b1, o1, P1, p1, rfl, hbb1, cx1, hxl1, rx1⟩ := (rn.up SJ.out).row hrow
                obtain ⟨b2, o2, P2, p2, rfl, hbb2, cx2, hxl2, rx2⟩ := rx1.row hx
                have HC := Lib.hid (cellL_of hrow hx)
                have HRL := Lib.hid hrl
                have i1 : (0 : Int) ≤ (t : Int) := by omega
                have i2 : (t : Int) < (next.length : Int) := by omega
                have i3 : (0 : Int) ≤ (a : Int) := by omega
                have i4 : (a : Int) < (row.length : Int) := by omega
                clear hrow hx hrl
                cases hbv : hasB s x with
                | true =>
                  have HE : Hid (fromL next a s (t + 1) = fromL next a s t ++ [(t : Int)]) := Lib.hid (fromL_yes (by rw [HC.out]; exact hbv))
                  have HBV := Lib.hid hbv
                  clear hbv
                  go_wp2_with (first
                    | (go_at_call 137; refine (l00Has P2 x p2 s true _ rx2 hxl2 HBV.out).mono ?_; rintro e w7 ⟨rfl, rfl⟩)
                    | (at_builtin; refine wpList_push (α := Int) _ rfl (.tmp 78) (.tmp 80) 26 rfl wi.heap.size 2 (.int .i64 0) 8 Try.underlying26 infoInt64S rfl A'' m c'' _ [] rfl (HF.out.below (C := wj.heap.size) (by repeat (first | exact Below.refl _ _ | refine Below.alloc ?_ (by first | omega | (simp only [sz_alloc, sz_set, sz_drew, sz_drewN]; omega) | (simp only [sz_alloc, sz_set, sz_drew, sz_drewN] at *; omega)) _ | refine Below.setCell ?_ (by first | omega | (simp only [sz_alloc, sz_set, sz_drew, sz_drewN]; omega) | (simp only [sz_alloc, sz_set, sz_drew, sz_drewN] at *; omega)) _ | refine Below.drew ?_ | refine below_drewN_ ?_ _)) (Nat.le_refl _)) wj.heap.size 1 rfl (t : Int) [.int .i64 t] [] ⟨rfl, rfl⟩ (new_cells (by first | rfl | simp [sz_set])) (fun u hu => by (simp at hu; subst hu; rfl)) ⟨List.nodup_nil, fun g hg => by simp at hg⟩ (fun g hg => by simp at hg) (by omega) (by omega) (by first | omega | (simp only [sz_alloc, sz_set, sz_drew, sz_drewN]; omega) | (simp only [sz_alloc, sz_set, sz_drew, sz_drewN] at *; omega)) ?_
                       intro D1 d1' w9 hacc hgr hnew
                       have HS2 : Since wi w9 := ⟨Acc.since (HF.out.below (C := wj.heap.size) (by repeat (first | exact Below.refl _ _ | refine Below.alloc ?_ (by first | omega | (simp only [sz_alloc, sz_set, sz_drew, sz_drewN]; omega) | (simp only [sz_alloc, sz_set, sz_drew, sz_drewN] at *; omega)) _ | refine Below.setCell ?_ (by first | omega | (simp only [sz_alloc, sz_set, sz_drew, sz_drewN]; omega) | (simp only [sz_alloc, sz_set, sz_drew, sz_drewN] at *; omega)) _ | refine Below.drew ?_ | refine below_drewN_ ?_ _)) (Nat.le_refl _)) hgr (by repeat (first | exact Below.refl _ _ | exact Since.out (by assumption) | refine Below.alloc ?_ (by first | omega | (simp only [sz_alloc, sz_set, sz_drew, sz_drewN]; omega) | (simp only [sz_alloc, sz_set, sz_drew, sz_drewN] at *; omega)) _ | refine Below.setCell ?_ (by first | omega | (simp only [sz_alloc, sz_set, sz_drew, sz_drewN]; omega) | (simp only [sz_alloc, sz_set, sz_drew, sz_drewN] at *; omega)) _ | refine Below.drew ?_ | refine below_drewN_ ?_ _)) (Nat.le_refl _) (by first | omega | (simp only [sz_alloc, sz_set, sz_drew, sz_drewN]; omega) | (simp only [sz_alloc, sz_set, sz_drew, sz_drewN] at *; omega))⟩
                       have HA := Lib.hid hacc
                       clear hacc hgr hnew))
                  go_roundw
                  case rel => exact ⟨t + 1, m + 1, D1, d1', by omega, by go_num, rfl, by omega, Lib.hid (by rw [HE.out]; exact HA.out), HS2⟩
                  case measure => simp [intOf]; omega
                | false =>
                  have HE : Hid (fromL next a s (t + 1) = fromL next a s t) := Lib.hid (fromL_no (by rw [HC.out]; exact hbv))
                  have HBV := Lib.hid hbv
                  clear hbv
                  go_wp2_with (go_at_call 137; refine (l00Has P2 x p2 s false _ rx2 hxl2 HBV.out).mono ?_; rintro e w7 ⟨rfl, rfl⟩)
                  go_roundw
                  case rel => exact ⟨t + 1, m, A'', c'', by omega, by go_num, rfl, by omega, Lib.hid (by rw [HE.out]; exact HF.out), hsj⟩
                  case measure => simp [intOf]; omega
              · obtain rfl : t = next.length := by omega
                have hm10 : m ≤ 10 := by omega
                have HFF : Hid (fromL next a s next.length = fromL next a s accept.length) := Lib.hid (by rw [HS.out])
                go_wp2_with (obtain ⟨b2, hy, hf⟩ := (HF.out.alloc (.cells #[.slice A'' m c''] 26)).row (by omega)
                             at_builtin; refine wpList_push (α := List Int) _ rfl (.tmp 82) (.tmp 84) 42 rfl W8.heap.size 26 (.slice none 0 0) 24 Try.underlying42 infoInt64SS rfl A' a c' _ bs' rfl (H9.out.below (C := wi.heap.size) (by repeat (first | exact Below.refl _ _ | exact Since.out (by assumption) | refine Below.alloc ?_ (by first | omega | (simp only [sz_alloc, sz_set, sz_drew, sz_drewN]; omega) | (simp only [sz_alloc, sz_set, sz_drew, sz_drewN] at *; omega)) _ | refine Below.setCell ?_ (by first | omega | (simp only [sz_alloc, sz_set, sz_drew, sz_drewN]; omega) | (simp only [sz_alloc, sz_set, sz_drew, sz_drewN] at *; omega)) _ | refine Below.drew ?_ | refine below_drewN_ ?_ _)) (Nat.le_refl _)) wj.heap.size 1 rfl (fromL next a s next.length) [.slice A'' m c''] b2 hy (new_cells (by first | rfl | simp [sz_set])) (fun u hu => by (simp at hu; subst hu; rfl)) ⟨hf.1, fun g hg => ⟨by have := (hf.2 g hg).1; omega, (hf.2 g hg).2⟩⟩ (H9.out.apart hf (Nat.le_refl _)) (by omega) (by omega) (by first | omega | (simp only [sz_alloc, sz_set, sz_drew, sz_drewN]; omega) | (simp only [sz_alloc, sz_set, sz_drew, sz_drewN] at *; omega)) ?_
                             intro D1 d1' w9 hacc hgr hnew
                             have HS2 : Since W8 w9 := ⟨Acc.since (H9.out.below (C := wi.heap.size) (by repeat (first | exact Below.refl _ _ | exact Since.out (by assumption) | refine Below.alloc ?_ (by first | omega | (simp only [sz_alloc, sz_set, sz_drew, sz_drewN]; omega) | (simp only [sz_alloc, sz_set, sz_drew, sz_drewN] at *; omega)) _ | refine Below.setCell ?_ (by first | omega | (simp only [sz_alloc, sz_set, sz_drew, sz_drewN]; omega) | (simp only [sz_alloc, sz_set, sz_drew, sz_drewN] at *; omega)) _ | refine Below.drew ?_ | refine below_drewN_ ?_ _)) (Nat.le_refl _)) hgr (below_cat hs9.out (by repeat (first | exact Below.refl _ _ | exact Since.out (by assumption) | refine Below.alloc ?_ (by first | omega | (simp only [sz_alloc, sz_set, sz_drew, sz_drewN]; omega) | (simp only [sz_alloc, sz_set, sz_drew, sz_drewN] at *; omega)) _ | refine Below.setCell ?_ (by first | omega | (simp only [sz_alloc, sz_set, sz_drew, sz_drewN]; omega) | (simp only [sz_alloc, sz_set, sz_drew, sz_drewN] at *; omega)) _ | refine Below.drew ?_ | refine below_drewN_ ?_ _)) hs9.out.size) (Nat.le_refl _) (by first | omega | (simp only [sz_alloc, sz_set, sz_drew, sz_drewN]; omega) | (simp only [sz_alloc, sz_set, sz_drew, sz_drewN] at *; omega))⟩
                             have HA := Lib.hid hacc
                             clear hacc hgr hnew hy hf)
                go_roundw
                case rel => exact ⟨a + 1, D1, d1', _, by omega, by go_num, rfl, Lib.hid (by rw [turnRow_snoc, ← HFF.out]; exact HA.out), HS2⟩
                case measure => simp [intOf]; omega
          · obtain rfl : a = l := by omega
            have q0 : wi.heap[w.heap.size + 1]? = some (.cells #[.int .i64 a, .slice B1 m1' d1, .slice D2 (s + 1) d2, .slice A3 s c3] 48 (0, 0)) := (hs9.out.block _ (by omega)).trans Q8.out
            have q1 : wi.heap[w.heap.size]? = some (.cells #[.int .i64 0, .slice none 0 0, .slice none 0 0, .slice none 0 0] 48 (0, 0)) := (hs9.out.block _ (by omega)).trans R8.out
            have k3 : wi.cell? ⟨w.heap.size + 1, 3, none⟩ = some (.slice A3 s c3) := cell_of_row wi _ 3 _ _ (0, 0) q0
            have hoi : w.heap.size + 1 < wi.heap.size := by omega
            have QI := Lib.hid q0
            have RI := Lib.hid q1
            have H8i : Hid (Acc3 (wi.alloc (.cells #[.slice A' a c'] 42)) (w.heap.size + 2) 2 4 42 B1 m1' d1 (turnStarts accept (s + 1)) D2 (s + 1) d2 (turnAcc starts (s + 1)) A3 s c3 (turnNext next accept.length a s) bs) := Lib.hid (H8.out.below (C := W8.heap.size) (by repeat (first | exact Below.refl _ _ | exact Since.out (by assumption) | refine Below.alloc ?_ (by first | omega | (simp only [sz_alloc, sz_set, sz_drew, sz_drewN]; omega) | (simp only [sz_alloc, sz_set, sz_drew, sz_drewN] at *; omega)) _ | refine Below.setCell ?_ (by first | omega | (simp only [sz_alloc, sz_set, sz_drew, sz_drewN]; omega) | (simp only [sz_alloc, sz_set, sz_drew, sz_drewN] at *; omega)) _ | refine Below.drew ?_ | refine below_drewN_ ?_ _)) (Nat.le_refl _))
            clear q0 q1
            go_wp2_with (obtain ⟨b2, hy, hf⟩ := (H9.out.alloc (.cells #[.slice A' a c'] 42)).row (by omega)
                         at_builtin; refine wpList_push (α := List (List Int)) _ rfl (.tmp 87) (.tmp 89) 46 rfl (w.heap.size + 2) 42 (.slice none 0 0) 24 Try.underlying46 infoInt64SSS rfl A3 s c3 _ bs rfl H8i.out.three wi.heap.size 1 rfl (turnRow next accept.length s a) [.slice A' a c'] b2 hy (new_cells (by first | rfl | simp [sz_set])) (fun u hu => by (simp at hu; subst hu; rfl)) ⟨hf.1, fun g hg => ⟨by have := (hf.2 g hg).1; omega, (hf.2 g hg).2⟩⟩ (H8.out.three.apart hf (Nat.le_refl _)) (by omega) (by omega) (by first | omega | (simp only [sz_alloc, sz_set, sz_drew, sz_drewN]; omega) | (simp only [sz_alloc, sz_set, sz_drew, sz_drewN] at *; omega)) ?_
                         intro D3 d3 w9 hacc hgr hnew
                         have hB1 := H8i.out.three.box hgr (alloc_block QI.out hoi) (by omega)
                         have hB2 := H8i.out.three.box hgr (alloc_block RI.out (by omega)) (by omega)
                         have f3 : w9.frozen? ⟨w.heap.size + 1, 3, none⟩ = false := blk_free hB1
                         have k9 : w9.cell? ⟨w.heap.size + 1, 3, none⟩ = some (.slice A3 s c3) := cell_of_row w9 _ 3 _ _ (0, 0) hB1
                         have hz9 : w.heap.size + 2 ≤ w9.heap.size := by have := hgr.size; simp only [sz_alloc] at this; omega
                         have HS9 : Since w w9 := ⟨Acc.since H8i.out.three hgr (below_cat S8.out (by repeat (first | exact Below.refl _ _ | exact Since.out (by assumption) | refine Below.alloc ?_ (by first | omega | (simp only [sz_alloc, sz_set, sz_drew, sz_drewN]; omega) | (simp only [sz_alloc, sz_set, sz_drew, sz_drewN] at *; omega)) _ | refine Below.setCell ?_ (by first | omega | (simp only [sz_alloc, sz_set, sz_drew, sz_drewN]; omega) | (simp only [sz_alloc, sz_set, sz_drew, sz_drewN] at *; omega)) _ | refine Below.drew ?_ | refine below_drewN_ ?_ _)) S8.out.size) (by omega) (by first | omega | (simp only [sz_alloc, sz_set, sz_drew, sz_drewN]; omega) | (simp only [sz_alloc, sz_set, sz_drew, sz_drewN] at *; omega))⟩
                         have HA := Lib.hid (H8i.out.grow3 hacc hgr hnew (H8.out.far hf (Nat.le_refl _)))
                         have HB1 := Lib.hid hB1
                         have HB2 := Lib.hid hB2
                         clear hacc hgr hnew hy hf hB1 hB2)
            go_roundw
            case rel =>
              refine ⟨s + 1, B1, m1', d1, D2, d2, D3, d3, bs ++ b2, by omega, by go_num, Lib.hid ⟨?_, ?_, ?_⟩, ⟨HS9.out.setCell (by simp) _⟩, (by first | omega | (simp only [sz_alloc, sz_set, sz_drew, sz_drewN]; omega) | (simp only [sz_alloc, sz_set, sz_drew, sz_drewN] at *; omega))⟩
              · rw [turnNext_snoc]
                exact HA.out.setCell (by simp) _
              · exact blk_set HB1.out _
              · exact blk_far HB2.out (by simp) _
            case measure => simp [intOf]; omega
      | false =>
        have HT := Lib.hid (turnStarts_no hbt)
        clear hbt
        obtain ⟨B1, hB1⟩ : ∃ B1, B1 = A1 := ⟨_, rfl⟩
        obtain ⟨m1', hm1⟩ : ∃ m, m = k1 := ⟨_, rfl⟩
        obtain ⟨d1, hd1⟩ : ∃ m, m = c1 := ⟨_, rfl⟩
        subst hB1; subst hm1; subst hd1
        have H6 : Hid (Acc3 wo (w.heap.size + 2) 2 4 42 B1 m1' d1 (turnStarts accept (s + 1)) A2 s c2 (turnAcc starts s) A3 s c3 (turnNext next accept.length l s) bs) := Lib.hid (by rw [HT.out]; exact H.out.1)
        have Q6 := Lib.hid H.out.2.1
        have R6 := Lib.hid H.out.2.2
        have S6 : Since w wo := hs
        have hbS : w.heap.size ≤ wo.heap.size := S6.out.size
        have hzW : w.heap.size + 2 ≤ wo.heap.size := hzr
        go_wp2
        have hz6 : w.heap.size + 2 ≤ wo.heap.size := hzW
        have m1 := (S6.out.cell (p := ⟨b, 1, none⟩) hbw).trans Q1.out
        have k2 : wo.cell? ⟨w.heap.size + 1, 2, none⟩ = some (.slice A2 s c2) := cell_of_row wo _ 2 _ _ (0, 0) Q6.out
        have hbW : b < wo.heap.size := Nat.lt_of_lt_of_le hbw S6.out.size
        have hoW : w.heap.size + 1 < wo.heap.size := by omega
        have hrW : w.heap.size < wo.heap.size := by omega
        refine Held.begin (fun w' => w'.cell? ⟨w.heap.size + 1, 2, none⟩ = some (.slice A2 s c2) ∧ w'.cell? ⟨b, 1, none⟩ = some (.slice As starts.length cs)) 10 (by kernel_rfl) (by (try dsimp only); (first | (go_keep; done) | (and_intros <;> go_simp))) (fun hHeld => ?_); (first | (refine Held.take (i := 0) (v := undef) (by (simp only [List.getElem?_toArray, List.getElem?_cons_succ, List.getElem?_cons_zero]); exact rfl) (by decide) (by kernel_rfl) (by kernel_rfl) (by kernel_rfl) (by kernel_rfl) (by exact fun _ _ _ h => h) (by exact Or.inr ⟨by rfl, rfl⟩) (by assumption) ?_) | (refine Held.take (i := 0) (v := ?_) (by (simp only [List.getElem?_toArray, List.getElem?_cons_succ, List.getElem?_cons_zero]); exact rfl) (by decide) (by kernel_rfl) (by kernel_rfl) (by kernel_rfl) (by kernel_rfl) (by exact fun _ _ _ h => h) (by refine Or.inl ⟨by rfl, ?_⟩; intro wS hSw; (try dsimp only at hSw); go_simp; (try with_reducible rfl)) (by assumption) ?_)); (try simp only [Act.put, List.setIfInBounds_toArray, List.set_cons_zero, List.set_cons_succ]); (first | (refine Held.take (i := 1) (v := undef) (by (simp only [List.getElem?_toArray, List.getElem?_cons_succ, List.getElem?_cons_zero]); exact rfl) (by decide) (by kernel_rfl) (by kernel_rfl) (by kernel_rfl) (by kernel_rfl) (by exact fun _ _ _ h => h) (by exact Or.inr ⟨by rfl, rfl⟩) (by assumption) ?_) | (refine Held.take (i := 1) (v := ?_) (by (simp only [List.getElem?_toArray, List.getElem?_cons_succ, List.getElem?_cons_zero]); exact rfl) (by decide) (by kernel_rfl) (by kernel_rfl) (by kernel_rfl) (by kernel_rfl) (by exact fun _ _ _ h => h) (by refine Or.inl ⟨by rfl, ?_⟩; intro wS hSw; (try dsimp only at hSw); go_simp; (try with_reducible rfl)) (by assumption) ?_)); (try simp only [Act.put, List.setIfInBounds_toArray, List.set_cons_zero, List.set_cons_succ]); (first | (refine Held.take (i := 2) (v := undef) (by (simp only [List.getElem?_toArray, List.getElem?_cons_succ, List.getElem?_cons_zero]); exact rfl) (by decide) (by kernel_rfl) (by kernel_rfl) (by kernel_rfl) (by kernel_rfl) (by exact fun _ _ _ h => h) (by exact Or.inr ⟨by rfl, rfl⟩) (by assumption) ?_) | (refine Held.take (i := 2) (v := ?_) (by (simp only [List.getElem?_toArray, List.getElem?_cons_succ, List.getElem?_cons_zero]); exact rfl) (by decide) (by kernel_rfl) (by kernel_rfl) (by kernel_rfl) (by kernel_rfl) (by exact fun _ _ _ h => h) (by refine Or.inl ⟨by rfl, ?_⟩; intro wS hSw; (try dsimp only at hSw); go_simp; (try with_reducible rfl)) (by assumption) ?_)); (try simp only [Act.put, List.setIfInBounds_toArray, List.set_cons_zero, List.set_cons_succ]); (first | (refine Held.take (i := 3) (v := undef) (by (simp only [List.getElem?_toArray, List.getElem?_cons_succ, List.getElem?_cons_zero]); exact rfl) (by decide) (by kernel_rfl) (by kernel_rfl) (by kernel_rfl) (by kernel_rfl) (by exact fun _ _ _ h => h) (by exact Or.inr ⟨by rfl, rfl⟩) (by assumption) ?_) | (refine Held.take (i := 3) (v := ?_) (by (simp only [List.getElem?_toArray, List.getElem?_cons_succ, List.getElem?_cons_zero]); exact rfl) (by decide) (by kernel_rfl) (by kernel_rfl) (by kernel_rfl) (by kernel_rfl) (by exact fun _ _ _ h => h) (by refine Or.inl ⟨by rfl, ?_⟩; intro wS hSw; (try dsimp only at hSw); go_simp; (try with_reducible rfl)) (by assumption) ?_)); (try simp only [Act.put, List.setIfInBounds_toArray, List.set_cons_zero, List.set_cons_succ]); (first | (refine Held.take (i := 4) (v := undef) (by (simp only [List.getElem?_toArray, List.getElem?_cons_succ, List.getElem?_cons_zero]); exact rfl) (by decide) (by kernel_rfl) (by kernel_rfl) (by kernel_rfl) (by kernel_rfl) (by exact fun _ _ _ h => h) (by exact Or.inr ⟨by rfl, rfl⟩) (by assumption) ?_) | (refine Held.take (i := 4) (v := ?_) (by (simp only [List.getElem?_toArray, List.getElem?_cons_succ, List.getElem?_cons_zero]); exact rfl) (by decide) (by kernel_rfl) (by kernel_rfl) (by kernel_rfl) (by kernel_rfl) (by exact fun _ _ _ h => h) (by refine Or.inl ⟨by rfl, ?_⟩; intro wS hSw; (try dsimp only at hSw); go_simp; (try with_reducible rfl)) (by assumption) ?_)); (try simp only [Act.put, List.setIfInBounds_toArray, List.set_cons_zero, List.set_cons_succ]); (first | (refine Held.take (i := 5) (v := undef) (by (simp only [List.getElem?_toArray, List.getElem?_cons_succ, List.getElem?_cons_zero]); exact rfl) (by decide) (by kernel_rfl) (by kernel_rfl) (by kernel_rfl) (by kernel_rfl) (by exact fun _ _ _ h => h) (by exact Or.inr ⟨by rfl, rfl⟩) (by assumption) ?_) | (refine Held.take (i := 5) (v := ?_) (by (simp only [List.getElem?_toArray, List.getElem?_cons_succ, List.getElem?_cons_zero]); exact rfl) (by decide) (by kernel_rfl) (by kernel_rfl) (by kernel_rfl) (by kernel_rfl) (by exact fun _ _ _ h => h) (by refine Or.inl ⟨by rfl, ?_⟩; intro wS hSw; (try dsimp only at hSw); go_simp; (try with_reducible rfl)) (by assumption) ?_)); (try simp only [Act.put, List.setIfInBounds_toArray, List.set_cons_zero, List.set_cons_succ]); (first | (refine Held.take (i := 6) (v := undef) (by (simp only [List.getElem?_toArray, List.getElem?_cons_succ, List.getElem?_cons_zero]); exact rfl) (by decide) (by kernel_rfl) (by kernel_rfl) (by kernel_rfl) (by kernel_rfl) (by exact fun _ _ _ h => h) (by exact Or.inr ⟨by rfl, rfl⟩) (by assumption) ?_) | (refine Held.take (i := 6) (v := ?_) (by (simp only [List.getElem?_toArray, List.getElem?_cons_succ, List.getElem?_cons_zero]); exact rfl) (by decide) (by kernel_rfl) (by kernel_rfl) (by kernel_rfl) (by kernel_rfl) (by exact fun _ _ _ h => h) (by refine Or.inl ⟨by rfl, ?_⟩; intro wS hSw; (try dsimp only at hSw); go_simp; (try with_reducible rfl)) (by assumption) ?_)); (try simp only [Act.put, List.setIfInBounds_toArray, List.set_cons_zero, List.set_cons_succ]); refine Held.one (i := 7) (by (simp only [List.getElem?_toArray, List.getElem?_cons_succ, List.getElem?_cons_zero]); exact rfl) (by kernel_rfl) (fun K hK => ?_); (go_simp; refine (l00Has As starts cs s (hasB s starts) _ ((rs.below (w' := wo.drew) S6.out.drew (Nat.le_refl _)).more hbS) hls rfl).mono ?_; rintro e w7 ⟨rfl, rfl⟩; go_wp2_with fail); refine hK.out _ _ (by (try dsimp only); (first | (go_keep; done) | (and_intros <;> go_simp))) (fun hHeld => ?_); clear hK K; (try simp only [Act.put, List.setIfInBounds_toArray, List.set_cons_zero, List.set_cons_succ]); refine Held.one (i := 8) (by (simp only [List.getElem?_toArray, List.getElem?_cons_succ, List.getElem?_cons_zero]); exact rfl) (by kernel_rfl) (fun K hK => ?_); go_simp; refine hK.out _ _ (by (try dsimp only); (first | (go_keep; done) | (and_intros <;> go_simp))) (fun hHeld => ?_); clear hK K; (try simp only [Act.put, List.setIfInBounds_toArray, List.set_cons_zero, List.set_cons_succ]); refine Held.one (i := 9) (by (simp only [List.getElem?_toArray, List.getElem?_cons_succ, List.getElem?_cons_zero]); exact rfl) (by kernel_rfl) (fun K hK => ?_); (refine step_push (α := Bool) _ (by rfl) (.tmp 37) (.tmp 44) 41 (by rfl) (w.heap.size + 2) 4 (.bool false) 1 Try.underlying41 infoBoolS rfl A2 s c2 _ [] (by rfl) ((H6.out.two.drew).alloc _) wo.heap.size 1 (by rfl) (hasB s starts) [.bool (hasB s starts)] [] ⟨rfl, rfl⟩ (fun j u hu => new_cells (w := wo) rfl j u hu) (fun u hu => by (simp at hu; subst hu; rfl)) ⟨List.nodup_nil, fun g hg => by simp at hg⟩ (fun g hg => by simp at hg) (by omega) (by omega) (by first | omega | (simp only [sz_alloc, sz_set, sz_drew, sz_drewN]; omega) | (simp only [sz_alloc, sz_set, sz_drew, sz_drewN] at *; omega)) ?_; intro D2 d2 w8 hacc hgr hnew; have hB1 := Lib.hid (Acc.box (H6.out.two.drew.alloc _) hgr (alloc_block Q6.out hoW) (by omega)); have hB2 := Lib.hid (Acc.box (H6.out.two.drew.alloc _) hgr (alloc_block R6.out hrW) (by omega)); have qe0 := (hgr.cell_far ⟨b, 1, none⟩ (by first | omega | (simp only [sz_alloc, sz_set, sz_drew, sz_drewN]; omega) | (simp only [sz_alloc, sz_set, sz_drew, sz_drewN] at *; omega)) (H6.out.two.far (by show b < _; omega))).trans (show (World.alloc _ _).cell? _ = some (.slice As starts.length cs) by go_simp); have q2 : w8.cell? ⟨w.heap.size + 1, 2, none⟩ = some (.slice A2 s c2) := cell_of_row w8 _ 2 _ _ (0, 0) hB1.out; have f2 : w8.frozen? ⟨w.heap.size + 1, 2, none⟩ = false := blk_free hB1.out; have HA := Lib.hid hacc; have HG := Lib.hid hgr; have HN := Lib.hid hnew; clear hacc hgr hnew); refine hK.out _ _ (by (try dsimp only); (first | (go_keep; done) | (and_intros <;> go_simp))) (fun hHeld => ?_); clear hK K; (try simp only [Act.put, List.setIfInBounds_toArray, List.set_cons_zero, List.set_cons_succ]); refine Held.last (i := 10) (by (simp only [List.getElem?_toArray, List.getElem?_cons_succ, List.getElem?_cons_zero]); exact rfl) (by decide) (by kernel_rfl) (fun K hK => ?_); go_simp; refine hK.out _ _ ?_; clear hK K; (try simp only [Act.put, List.setIfInBounds_toArray, List.set_cons_zero, List.set_cons_succ]); refine Held.last (i := 11) (by (simp only [List.getElem?_toArray, List.getElem?_cons_succ, List.getElem?_cons_zero]); exact rfl) (by decide) (by kernel_rfl) (fun K hK => ?_); go_simp; refine hK.out _ _ ?_; clear hK K; (try simp only [Act.put, List.setIfInBounds_toArray, List.set_cons_zero, List.set_cons_succ]); refine Held.done (by kernel_rfl) ?_ _
        obtain ⟨W8, hW8⟩ : ∃ W8, W8 = w8.setCell ⟨w.heap.size + 1, 2, none⟩ (.slice D2 (s + 1) d2) := ⟨_, rfl⟩
        rw [← hW8]
        have H8 : Hid (Acc3 W8 (w.heap.size + 2) 2 4 42 B1 m1' d1 (turnStarts accept (s + 1)) D2 (s + 1) d2 (turnAcc starts (s + 1)) A3 s c3 (turnNext next accept.length l s) bs) := Lib.hid (by
          rw [hW8, turnAcc_snoc]
          exact ((((H6.out.below (w' := wo.drew) (C := wo.heap.size) (by repeat (first | exact Below.refl _ _ | refine Below.alloc ?_ (by first | omega | (simp only [sz_alloc, sz_set, sz_drew, sz_drewN]; omega) | (simp only [sz_alloc, sz_set, sz_drew, sz_drewN] at *; omega)) _ | refine Below.setCell ?_ (by first | omega | (simp only [sz_alloc, sz_set, sz_drew, sz_drewN]; omega) | (simp only [sz_alloc, sz_set, sz_drew, sz_drewN] at *; omega)) _ | refine Below.drew ?_ | refine below_drewN_ ?_ _)) (Nat.le_refl _)).below (w' := wo.drew.alloc _) (C := wo.heap.size) (by repeat (first | exact Below.refl _ _ | refine Below.alloc ?_ (by first | omega | (simp only [sz_alloc, sz_set, sz_drew, sz_drewN]; omega) | (simp only [sz_alloc, sz_set, sz_drew, sz_drewN] at *; omega)) _ | refine Below.setCell ?_ (by first | omega | (simp only [sz_alloc, sz_set, sz_drew, sz_drewN]; omega) | (simp only [sz_alloc, sz_set, sz_drew, sz_drewN] at *; omega)) _ | refine Below.drew ?_ | refine below_drewN_ ?_ _)) (Nat.le_refl _)).grow2 HA.out HG.out HN.out)).setCell (by simp) _)
        have Q8 : Hid (W8.heap[w.heap.size + 1]? = some (.cells #[.int .i64 l, .slice B1 m1' d1, .slice D2 (s + 1) d2, .slice A3 s c3] 48 (0, 0))) := Lib.hid (by rw [hW8]; exact blk_set (i := 2) hB1.out _)
        have R8 : Hid (W8.heap[w.heap.size]? = some (.cells #[.int .i64 0, .slice none 0 0, .slice none 0 0, .slice none 0 0] 48 (0, 0))) := Lib.hid (by rw [hW8]; exact blk_far hB2.out (by simp) _)
        have S8 : Since w W8 := ⟨by
          rw [hW8]
          exact (Acc.since (H6.out.two.drew.alloc _) HG.out (by repeat (first | exact Below.refl _ _ | exact Since.out (by assumption) | refine Below.alloc ?_ (by first | omega | (simp only [sz_alloc, sz_set, sz_drew, sz_drewN]; omega) | (simp only [sz_alloc, sz_set, sz_drew, sz_drewN] at *; omega)) _ | refine Below.setCell ?_ (by first | omega | (simp only [sz_alloc, sz_set, sz_drew, sz_drewN]; omega) | (simp only [sz_alloc, sz_set, sz_drew, sz_drewN] at *; omega)) _ | refine Below.drew ?_ | refine below_drewN_ ?_ _)) (by omega) (by first | omega | (simp only [sz_alloc, sz_set, sz_drew, sz_drewN]; omega) | (simp only [sz_alloc, sz_set, sz_drew, sz_drewN] at *; omega))).setCell (by simp) _⟩
        have hz8 : w.heap.size + 2 ≤ W8.heap.size := by rw [hW8]; have := HG.out.size; simp only [sz_alloc, sz_set, sz_drew, sz_drewN] at *; omega
        clear HA HG HN hB1 hB2 q2 f2 qe0 hW8
        have e0 := (S8.out.cell (p := ⟨b, 0, none⟩) hbw).trans Q0.out
        have e3 := (S8.out.cell (p := ⟨b, 3, none⟩) hbw).trans Q3.out
        have hb8 : b < W8.heap.size := Nat.lt_of_lt_of_le hbw S8.out.size
        go_wp2
        go_loopw [5, 6] (fun rv i wi => ∃ (a : Nat) (A' : Option Addr) (c' : Nat) (bs' : List Nat), a ≤ l ∧ i = .int .i64 a ∧ rv = .slice A' a c' ∧ Hid (Acc wi W8.heap.size 26 A' a c' (turnRow next accept.length s a) bs') ∧ Since W8 wi) (fun _ i _ => l - (intOf i).toNat)
        case atStart => exact ⟨0, _, _, [], Nat.zero_le _, rfl, rfl, Lib.hid (Acc.empty_ (new_block rfl) (Nat.le_refl _)), ⟨(by repeat (first | exact Below.refl _ _ | refine Below.alloc ?_ (by first | omega | (simp only [sz_alloc, sz_set, sz_drew, sz_drewN]; omega) | (simp only [sz_alloc, sz_set, sz_drew, sz_drewN] at *; omega)) _ | refine Below.setCell ?_ (by first | omega | (simp only [sz_alloc, sz_set, sz_drew, sz_drewN]; omega) | (simp only [sz_alloc, sz_set, sz_drew, sz_drewN] at *; omega)) _ | refine Below.drew ?_ | refine below_drewN_ ?_ _))⟩⟩
        case round =>
          obtain ⟨a, A', c', bs', ha, rfl, rfl, H9, hs9⟩ := hrel
          obtain ⟨wi, rfl⟩ : ∃ wi, wi = wr := ⟨_, rfl⟩
          have hzi := hs9.out.size
          have g0 := (hs9.out.cell (p := ⟨b, 0, none⟩) hb8).trans e0
          have g3 := (hs9.out.cell (p := ⟨b, 3, none⟩) hb8).trans e3
          have hbi : b < wi.heap.size := by omega
          by_cases hlta : a < l
          · go_wp2
            go_loopw [7, 8] (fun fv i wj => ∃ (t m : Nat) (A'' : Option Addr) (c'' : Nat), t ≤ next.length ∧ i = .int .i64 t ∧ fv = .slice A'' m c'' ∧ m ≤ t ∧ Hid (Acc wj wi.heap.size 2 A'' m c'' (fromL next a s t) []) ∧ Since wi wj) (fun _ i _ => next.length - (intOf i).toNat)
            case atStart => exact ⟨0, 0, _, _, Nat.zero_le _, rfl, rfl, Nat.le_refl _, Lib.hid (Acc.empty_ (new_block rfl) (Nat.le_refl _)), ⟨(by repeat (first | exact Below.refl _ _ | refine Below.alloc ?_ (by first | omega | (simp only [sz_alloc, sz_set, sz_drew, sz_drewN]; omega) | (simp only [sz_alloc, sz_set, sz_drew, sz_drewN] at *; omega)) _ | refine Below.setCell ?_ (by first | omega | (simp only [sz_alloc, sz_set, sz_drew, sz_drewN]; omega) | (simp only [sz_alloc, sz_set, sz_drew, sz_drewN] at *; omega)) _ | refine Below.drew ?_ | refine below_drewN_ ?_ _))⟩⟩
            case round =>
              obtain ⟨t, m, A'', c'', ht, rfl, rfl, hmt, HF, hsj⟩ := hrel
              obtain ⟨wj, rfl⟩ : ∃ wj, wj = wr := ⟨_, rfl⟩
              have hzj := hsj.out.size
              have SJ : Since w wj := ⟨below_cat S8.out (below_cat hs9.out hsj.out hs9.out.size) S8.out.size⟩
              have j0 := (SJ.out.cell (p := ⟨b, 0, none⟩) hbw).trans Q0.out
              have j3 := (SJ.out.cell (p := ⟨b, 3, none⟩) hbw).trans Q3.out
              have hbj : b < wj.heap.size := by omega
              by_cases hltt : t < next.length
              · obtain ⟨row, hrow⟩ := get_some hltt
                obtain ⟨hrl, -⟩ := HR.out row (List.mem_of_getElem? hrow)
                obtain ⟨x, hx⟩ := get_some (xs := row) (k := a) (by omega)
                obtain ⟨b1, o1, P1, p1, rfl, hbb1, cx1, hxl1, rx1⟩ := (rn.up SJ.out).row hrow
                obtain ⟨b2, o2, P2, p2, rfl, hbb2, cx2, hxl2, rx2⟩ := rx1.row hx
                have HC := Lib.hid (cellL_of hrow hx)
                have HRL := Lib.hid hrl
                have i1 : (0 : Int) ≤ (t : Int) := by omega
                have i2 : (t : Int) < (next.length : Int) := by omega
                have i3 : (0 : Int) ≤ (a : Int) := by omega
                have i4 : (a : Int) < (row.length : Int) := by omega
                clear hrow hx hrl
                cases hbv : hasB s x with
                | true =>
                  have HE : Hid (fromL next a s (t + 1) = fromL next a s t ++ [(t : Int)]) := Lib.hid (fromL_yes (by rw [HC.out]; exact hbv))
                  have HBV := Lib.hid hbv
                  clear hbv
                  go_wp2_with (first
                    | (go_at_call 137; refine (l00Has P2 x p2 s true _ rx2 hxl2 HBV.out).mono ?_; rintro e w7 ⟨rfl, rfl⟩)
                    | (at_builtin; refine wpList_push (α := Int) _ rfl (.tmp 78) (.tmp 80) 26 rfl wi.heap.size 2 (.int .i64 0) 8 Try.underlying26 infoInt64S rfl A'' m c'' _ [] rfl (HF.out.below (C := wj.heap.size) (by repeat (first | exact Below.refl _ _ | refine Below.alloc ?_ (by first | omega | (simp only [sz_alloc, sz_set, sz_drew, sz_drewN]; omega) | (simp only [sz_alloc, sz_set, sz_drew, sz_drewN] at *; omega)) _ | refine Below.setCell ?_ (by first | omega | (simp only [sz_alloc, sz_set, sz_drew, sz_drewN]; omega) | (simp only [sz_alloc, sz_set, sz_drew, sz_drewN] at *; omega)) _ | refine Below.drew ?_ | refine below_drewN_ ?_ _)) (Nat.le_refl _)) wj.heap.size 1 rfl (t : Int) [.int .i64 t] [] ⟨rfl, rfl⟩ (new_cells (by first | rfl | simp [sz_set])) (fun u hu => by (simp at hu; subst hu; rfl)) ⟨List.nodup_nil, fun g hg => by simp at hg⟩ (fun g hg => by simp at hg) (by omega) (by omega) (by first | omega | (simp only [sz_alloc, sz_set, sz_drew, sz_drewN]; omega) | (simp only [sz_alloc, sz_set, sz_drew, sz_drewN] at *; omega)) ?_
                       intro D1 d1' w9 hacc hgr hnew
                       have HS2 : Since wi w9 := ⟨Acc.since (HF.out.below (C := wj.heap.size) (by repeat (first | exact Below.refl _ _ | refine Below.alloc ?_ (by first | omega | (simp only [sz_alloc, sz_set, sz_drew, sz_drewN]; omega) | (simp only [sz_alloc, sz_set, sz_drew, sz_drewN] at *; omega)) _ | refine Below.setCell ?_ (by first | omega | (simp only [sz_alloc, sz_set, sz_drew, sz_drewN]; omega) | (simp only [sz_alloc, sz_set, sz_drew, sz_drewN] at *; omega)) _ | refine Below.drew ?_ | refine below_drewN_ ?_ _)) (Nat.le_refl _)) hgr (by repeat (first | exact Below.refl _ _ | exact Since.out (by assumption) | refine Below.alloc ?_ (by first | omega | (simp only [sz_alloc, sz_set, sz_drew, sz_drewN]; omega) | (simp only [sz_alloc, sz_set, sz_drew, sz_drewN] at *; omega)) _ | refine Below.setCell ?_ (by first | omega | (simp only [sz_alloc, sz_set, sz_drew, sz_drewN]; omega) | (simp only [sz_alloc, sz_set, sz_drew, sz_drewN] at *; omega)) _ | refine Below.drew ?_ | refine below_drewN_ ?_ _)) (Nat.le_refl _) (by first | omega | (simp only [sz_alloc, sz_set, sz_drew, sz_drewN]; omega) | (simp only [sz_alloc, sz_set, sz_drew, sz_drewN] at *; omega))⟩
                       have HA := Lib.hid hacc
                       clear hacc hgr hnew))
                  go_roundw
                  case rel => exact ⟨t + 1, m + 1, D1, d1', by omega, by go_num, rfl, by omega, Lib.hid (by rw [HE.out]; exact HA.out), HS2⟩
                  case measure => simp [intOf]; omega
                | false =>
                  have HE : Hid (fromL next a s (t + 1) = fromL next a s t) := Lib.hid (fromL_no (by rw [HC.out]; exact hbv))
                  have HBV := Lib.hid hbv
                  clear hbv
                  go_wp2_with (go_at_call 137; refine (l00Has P2 x p2 s false _ rx2 hxl2 HBV.out).mono ?_; rintro e w7 ⟨rfl, rfl⟩)
                  go_roundw
                  case rel => exact ⟨t + 1, m, A'', c'', by omega, by go_num, rfl, by omega, Lib.hid (by rw [HE.out]; exact HF.out), hsj⟩
                  case measure => simp [intOf]; omega
              · obtain rfl : t = next.length := by omega
                have hm10 : m ≤ 10 := by omega
                have HFF : Hid (fromL next a s next.length = fromL next a s accept.length) := Lib.hid (by rw [HS.out])
                go_wp2_with (obtain ⟨b2, hy, hf⟩ := (HF.out.alloc (.cells #[.slice A'' m c''] 26)).row (by omega)
                             at_builtin; refine wpList_push (α := List Int) _ rfl (.tmp 82) (.tmp 84) 42 rfl W8.heap.size 26 (.slice none 0 0) 24 Try.underlying42 infoInt64SS rfl A' a c' _ bs' rfl (H9.out.below (C := wi.heap.size) (by repeat (first | exact Below.refl _ _ | exact Since.out (by assumption) | refine Below.alloc ?_ (by first | omega | (simp only [sz_alloc, sz_set, sz_drew, sz_drewN]; omega) | (simp only [sz_alloc, sz_set, sz_drew, sz_drewN] at *; omega)) _ | refine Below.setCell ?_ (by first | omega | (simp only [sz_alloc, sz_set, sz_drew, sz_drewN]; omega) | (simp only [sz_alloc, sz_set, sz_drew, sz_drewN] at *; omega)) _ | refine Below.drew ?_ | refine below_drewN_ ?_ _)) (Nat.le_refl _)) wj.heap.size 1 rfl (fromL next a s next.length) [.slice A'' m c''] b2 hy (new_cells (by first | rfl | simp [sz_set])) (fun u hu => by (simp at hu; subst hu; rfl)) ⟨hf.1, fun g hg => ⟨by have := (hf.2 g hg).1; omega, (hf.2 g hg).2⟩⟩ (H9.out.apart hf (Nat.le_refl _)) (by omega) (by omega) (by first | omega | (simp only [sz_alloc, sz_set, sz_drew, sz_drewN]; omega) | (simp only [sz_alloc, sz_set, sz_drew, sz_drewN] at *; omega)) ?_
                             intro D1 d1' w9 hacc hgr hnew
                             have HS2 : Since W8 w9 := ⟨Acc.since (H9.out.below (C := wi.heap.size) (by repeat (first | exact Below.refl _ _ | exact Since.out (by assumption) | refine Below.alloc ?_ (by first | omega | (simp only [sz_alloc, sz_set, sz_drew, sz_drewN]; omega) | (simp only [sz_alloc, sz_set, sz_drew, sz_drewN] at *; omega)) _ | refine Below.setCell ?_ (by first | omega | (simp only [sz_alloc, sz_set, sz_drew, sz_drewN]; omega) | (simp only [sz_alloc, sz_set, sz_drew, sz_drewN] at *; omega)) _ | refine Below.drew ?_ | refine below_drewN_ ?_ _)) (Nat.le_refl _)) hgr (below_cat hs9.out (by repeat (first | exact Below.refl _ _ | exact Since.out (by assumption) | refine Below.alloc ?_ (by first | omega | (simp only [sz_alloc, sz_set, sz_drew, sz_drewN]; omega) | (simp only [sz_alloc, sz_set, sz_drew, sz_drewN] at *; omega)) _ | refine Below.setCell ?_ (by first | omega | (simp only [sz_alloc, sz_set, sz_drew, sz_drewN]; omega) | (simp only [sz_alloc, sz_set, sz_drew, sz_drewN] at *; omega)) _ | refine Below.drew ?_ | refine below_drewN_ ?_ _)) hs9.out.size) (Nat.le_refl _) (by first | omega | (simp only [sz_alloc, sz_set, sz_drew, sz_drewN]; omega) | (simp only [sz_alloc, sz_set, sz_drew, sz_drewN] at *; omega))⟩
                             have HA := Lib.hid hacc
                             clear hacc hgr hnew hy hf)
                go_roundw
                case rel => exact ⟨a + 1, D1, d1', _, by omega, by go_num, rfl, Lib.hid (by rw [turnRow_snoc, ← HFF.out]; exact HA.out), HS2⟩
                case measure => simp [intOf]; omega
          · obtain rfl : a = l := by omega
            have q0 : wi.heap[w.heap.size + 1]? = some (.cells #[.int .i64 a, .slice B1 m1' d1, .slice D2 (s + 1) d2, .slice A3 s c3] 48 (0, 0)) := (hs9.out.block _ (by omega)).trans Q8.out
            have q1 : wi.heap[w.heap.size]? = some (.cells #[.int .i64 0, .slice none 0 0, .slice none 0 0, .slice none 0 0] 48 (0, 0)) := (hs9.out.block _ (by omega)).trans R8.out
            have k3 : wi.cell? ⟨w.heap.size + 1, 3, none⟩ = some (.slice A3 s c3) := cell_of_row wi _ 3 _ _ (0, 0) q0
            have hoi : w.heap.size + 1 < wi.heap.size := by omega
            have QI := Lib.hid q0
            have RI := Lib.hid q1
            have H8i : Hid (Acc3 (wi.alloc (.cells #[.slice A' a c'] 42)) (w.heap.size + 2) 2 4 42 B1 m1' d1 (turnStarts accept (s + 1)) D2 (s + 1) d2 (turnAcc starts (s + 1)) A3 s c3 (turnNext next accept.length a s) bs) := Lib.hid (H8.out.below (C := W8.heap.size) (by repeat (first | exact Below.refl _ _ | exact Since.out (by assumption) | refine Below.alloc ?_ (by first | omega | (simp only [sz_alloc, sz_set, sz_drew, sz_drewN]; omega) | (simp only [sz_alloc, sz_set, sz_drew, sz_drewN] at *; omega)) _ | refine Below.setCell ?_ (by first | omega | (simp only [sz_alloc, sz_set, sz_drew, sz_drewN]; omega) | (simp only [sz_alloc, sz_set, sz_drew, sz_drewN] at *; omega)) _ | refine Below.drew ?_ | refine below_drewN_ ?_ _)) (Nat.le_refl _))
            clear q0 q1
            go_wp2_with (obtain ⟨b2, hy, hf⟩ := (H9.out.alloc (.cells #[.slice A' a c'] 42)).row (by omega)
                         at_builtin; refine wpList_push (α := List (List Int)) _ rfl (.tmp 87) (.tmp 89) 46 rfl (w.heap.size + 2) 42 (.slice none 0 0) 24 Try.underlying46 infoInt64SSS rfl A3 s c3 _ bs rfl H8i.out.three wi.heap.size 1 rfl (turnRow next accept.length s a) [.slice A' a c'] b2 hy (new_cells (by first | rfl | simp [sz_set])) (fun u hu => by (simp at hu; subst hu; rfl)) ⟨hf.1, fun g hg => ⟨by have := (hf.2 g hg).1; omega, (hf.2 g hg).2⟩⟩ (H8.out.three.apart hf (Nat.le_refl _)) (by omega) (by omega) (by first | omega | (simp only [sz_alloc, sz_set, sz_drew, sz_drewN]; omega) | (simp only [sz_alloc, sz_set, sz_drew, sz_drewN] at *; omega)) ?_
                         intro D3 d3 w9 hacc hgr hnew
                         have hB1 := H8i.out.three.box hgr (alloc_block QI.out hoi) (by omega)
                         have hB2 := H8i.out.three.box hgr (alloc_block RI.out (by omega)) (by omega)
                         have f3 : w9.frozen? ⟨w.heap.size + 1, 3, none⟩ = false := blk_free hB1
                         have k9 : w9.cell? ⟨w.heap.size + 1, 3, none⟩ = some (.slice A3 s c3) := cell_of_row w9 _ 3 _ _ (0, 0) hB1
                         have hz9 : w.heap.size + 2 ≤ w9.heap.size := by have := hgr.size; simp only [sz_alloc] at this; omega
                         have HS9 : Since w w9 := ⟨Acc.since H8i.out.three hgr (below_cat S8.out (by repeat (first | exact Below.refl _ _ | exact Since.out (by assumption) | refine Below.alloc ?_ (by first | omega | (simp only [sz_alloc, sz_set, sz_drew, sz_drewN]; omega) | (simp only [sz_alloc, sz_set, sz_drew, sz_drewN] at *; omega)) _ | refine Below.setCell ?_ (by first | omega | (simp only [sz_alloc, sz_set, sz_drew, sz_drewN]; omega) | (simp only [sz_alloc, sz_set, sz_drew, sz_drewN] at *; omega)) _ | refine Below.drew ?_ | refine below_drewN_ ?_ _)) S8.out.size) (by omega) (by first | omega | (simp only [sz_alloc, sz_set, sz_drew, sz_drewN]; omega) | (simp only [sz_alloc, sz_set, sz_drew, sz_drewN] at *; omega))⟩
                         have HA := Lib.hid (H8i.out.grow3 hacc hgr hnew (H8.out.far hf (Nat.le_refl _)))
                         have HB1 := Lib.hid hB1
                         have HB2 := Lib.hid hB2
                         clear hacc hgr hnew hy hf hB1 hB2)
            go_roundw
            case rel =>
              refine ⟨s + 1, B1, m1', d1, D2, d2, D3, d3, bs ++ b2, by omega, by go_num, Lib.hid ⟨?_, ?_, ?_⟩, ⟨HS9.out.setCell (by simp) _⟩, (by first | omega | (simp only [sz_alloc, sz_set, sz_drew, sz_drewN]; omega) | (simp only [sz_alloc, sz_set, sz_drew, sz_drewN] at *; omega))⟩
              · rw [turnNext_snoc]
                exact HA.out.setCell (by simp) _
              · exact blk_set HB1.out _
              · exact blk_far HB2.out (by simp) _
            case measure => simp [intOf]; omega
    · obtain rfl : s = accept.length := by omega
      have q0 := H.out.2.1
      have k0 : wo.cell? ⟨w.heap.size + 1, 0, none⟩ = some (.int .i64 l) := cell_of_row wo _ 0 _ _ (0, 0) q0
      have kk1 : wo.cell? ⟨w.heap.size + 1, 1, none⟩ = some (.slice A1 k1 c1) := cell_of_row wo _ 1 _ _ (0, 0) q0
      have k2 : wo.cell? ⟨w.heap.size + 1, 2, none⟩ = some (.slice A2 accept.length c2) := cell_of_row wo _ 2 _ _ (0, 0) q0
      have k3 : wo.cell? ⟨w.heap.size + 1, 3, none⟩ = some (.slice A3 accept.length c3) := cell_of_row wo _ 3 _ _ (0, 0) q0
      have z0 : wo.cell? ⟨w.heap.size, 0, none⟩ = some (.int .i64 0) := cell_of_row wo _ 0 _ _ (0, 0) H.out.2.2
      have z1 : wo.cell? ⟨w.heap.size, 1, none⟩ = some (.slice none 0 0) := cell_of_row wo _ 1 _ _ (0, 0) H.out.2.2
      have z2 : wo.cell? ⟨w.heap.size, 2, none⟩ = some (.slice none 0 0) := cell_of_row wo _ 2 _ _ (0, 0) H.out.2.2
      have z3 : wo.cell? ⟨w.heap.size, 3, none⟩ = some (.slice none 0 0) := cell_of_row wo _ 3 _ _ (0, 0) H.out.2.2
      have hfz := fun o => blk_free (i := o) H.out.2.2
      have hlR : w.heap.size < wo.heap.size := by omega
      clear q0
      go_wp2
      obtain ⟨x1, x2, x3, o1, o2, o3, fr⟩ := H.out.1.own
      have hm1 := H.out.1.one.len
      have hm2 := turnAcc_len starts accept.length
      have hm3 := turnNext_len next accept.length l accept.length
      have hin : ∀ g ∈ x1 ++ (x2 ++ x3), g ∉ [w.heap.size] ∧ g < wo.heap.size := fun g hg => ⟨by have := fr.2 g hg; simp; omega, (fr.2 g hg).2⟩
      refine bodyPost_ret (v := .agg #[.int .i64 l, .slice A1 k1 c1, .slice A2 accept.length c2, .slice A3 accept.length c3]) (by simp [results, Try.results96, go_sem, *]) rfl
        ⟨_, x1 ++ (x2 ++ x3), rfl, ⟨A1, c1, A2, c2, A3, c3, x1, x2, x3, by rw [hm1]; simp only [Mn.turn, hm2, Int.toNat_natCast, hm3], o1.only (bs' := [w.heap.size]) (by repeat (first | with_reducible exact OnlyB.refl _ _ | with_reducible refine OnlyB.setCell ?_ (by simp) _ | with_reducible refine OnlyB.alloc ?_ _ | with_reducible refine OnlyB.drew ?_ | refine OnlyB.trans ?_ (OnlyB.of_below (by assumption) _))) (fun g hg => hin g (List.mem_append_left _ hg)), o2.only (bs' := [w.heap.size]) (by repeat (first | with_reducible exact OnlyB.refl _ _ | with_reducible refine OnlyB.setCell ?_ (by simp) _ | with_reducible refine OnlyB.alloc ?_ _ | with_reducible refine OnlyB.drew ?_ | refine OnlyB.trans ?_ (OnlyB.of_below (by assumption) _))) (fun g hg => hin g (List.mem_append_right _ (List.mem_append_left _ hg))), ?_, rfl⟩, ⟨fr.1, fun g hg => ?_⟩, (by repeat (first | exact Below.refl _ _ | exact Since.out (by assumption) | refine Below.alloc ?_ (by first | omega | (simp only [sz_alloc, sz_set, sz_drew, sz_drewN]; omega) | (simp only [sz_alloc, sz_set, sz_drew, sz_drewN] at *; omega)) _ | refine Below.setCell ?_ (by first | omega | (simp only [sz_alloc, sz_set, sz_drew, sz_drewN]; omega) | (simp only [sz_alloc, sz_set, sz_drew, sz_drewN] at *; omega)) _ | refine Below.drew ?_ | refine below_drewN_ ?_ _))⟩
      · show OwnS _ A3 (turnNext next accept.length (Int.toNat (l : Int)) accept.length) x3
        rw [Int.toNat_natCast]
        exact o3.only (bs' := [w.heap.size]) (by repeat (first | with_reducible exact OnlyB.refl _ _ | with_reducible refine OnlyB.setCell ?_ (by simp) _ | with_reducible refine OnlyB.alloc ?_ _ | with_reducible refine OnlyB.drew ?_ | refine OnlyB.trans ?_ (OnlyB.of_below (by assumption) _))) (fun g hg => hin g (List.mem_append_right _ (List.mem_append_right _ hg)))
      · have := fr.2 g hg; simp only [sz_set]; omega
end Go.Proofs.Ytepjgaakihhngaa
