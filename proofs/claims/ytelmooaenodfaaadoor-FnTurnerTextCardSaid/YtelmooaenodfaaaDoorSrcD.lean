/-
  The reference's turner of a text of bytes; the law's test of lengths. Conditions: those in each statement.
-/
import Derived.Test.YtelmooaenodfaaaDoorSrcC
set_option linter.unusedVariables false
set_option linter.unusedSimpArgs false
set_option maxRecDepth 100000
set_option maxHeartbeats 1000000
namespace Go.Proofs.YtelmooaenodfaaaDoor
open Go.RowKit

theorem l00From_spec (A : Option Addr) (c : Nat) (code : List U8) (w : World) (r : RdS w w.heap.size A code) (hl : code.length ≤ 3000) :
    Calls Tryd.prog 91 #[.slice A code.length c] w fun e w' => ∃ S, e = .returned (.pointer (some ⟨S, 0, none⟩)) ∧ w.heap.size ≤ S ∧ Src w' S 0 ∧ Below w.heap.size w w' := by
  go_enter Tryd.func91, Tryd.ntmps91
  go_wp2
  go_ret
  exact ⟨w.heap.size, rfl, Nat.le_refl _, ⟨A, c, 0, 0, code, new_block rfl, Nat.le_refl _, Int.le_refl _, by decide, r.below ((Below.refl _ _).alloc (Nat.le_refl _) _) (Nat.le_refl _), hl⟩, (Below.refl _ _).alloc (Nat.le_refl _) _⟩

set_option maxHeartbeats 2000000 in
theorem a2Turner_spec (A : Option Addr) (c : Nat) (code : List U8) (w : World) (r : RdS w w.heap.size A code) (hl : code.length ≤ 3000) :
    Calls Tryd.prog 41 #[.slice A code.length c] w fun e w' => ∃ (T : Tn) (v : Value) (bs : List Nat), e = .returned v ∧ T.okB = true ∧ OwnTn w' v T bs ∧ Fresh w.heap.size w' bs ∧ Below w.heap.size w w' := by
  go_enter Tryd.func41, Tryd.ntmps41
  go_wp2_with fail
  refine (l00From_spec A c code _ (r.up (by repeat (first | exact Below.refl _ _ | refine Below.alloc ?_ (by first | omega | (simp only [sz_alloc, sz_set, sz_drew, sz_drewN]; omega) | (simp only [sz_alloc, sz_set, sz_drew, sz_drewN] at *; omega)) _ | refine Below.setCell ?_ (by first | omega | (simp only [sz_alloc, sz_set, sz_drew, sz_drewN]; omega) | (simp only [sz_alloc, sz_set, sz_drew, sz_drewN] at *; omega)) _ | refine Below.drew ?_ | refine below_drewN_ ?_ _))) hl).mono ?_
  rintro e w1 ⟨S, rfl, hS, hs1, hb1⟩
  simp only [sz_alloc] at hS
  have hz1 := hb1.size
  simp only [sz_alloc] at hz1
  have HB1 : Hid (Below w.heap.size w w1) := Lib.hid (below_cat (B := w.heap.size) (by repeat (first | exact Below.refl _ _ | refine Below.alloc ?_ (by first | omega | (simp only [sz_alloc, sz_set, sz_drew, sz_drewN]; omega) | (simp only [sz_alloc, sz_set, sz_drew, sz_drewN] at *; omega)) _ | refine Below.setCell ?_ (by first | omega | (simp only [sz_alloc, sz_set, sz_drew, sz_drewN]; omega) | (simp only [sz_alloc, sz_set, sz_drew, sz_drewN] at *; omega)) _ | refine Below.drew ?_ | refine below_drewN_ ?_ _)) hb1 (by first | omega | (simp only [sz_alloc, sz_set, sz_drew, sz_drewN]; omega) | (simp only [sz_alloc, sz_set, sz_drew, sz_drewN] at *; omega)))
  have HR1 : Hid (w1.heap[w.heap.size]? = some (.cells #[.int .i64 0, .int .i64 0, .slice none 0 0] 40 (0, 0))) := Lib.hid ((hb1.block _ (by simp [sz_alloc])).trans (new_block rfl))
  have HS1 := Lib.hid hs1
  clear hs1 hb1 r
  go_wp2_with fail
  refine (pick_i S 0 2 2 rfl _ HS1.out (by decide) (by decide) (by decide)).mono ?_
  rintro e w2 ⟨v2, rfl, hv2, hs2, ho2⟩
  have hz2 := ho2.size
  obtain ⟨L, hL⟩ : ∃ L, L = v2 + 1 := ⟨_, rfl⟩
  obtain ⟨hw1', hw1''⟩ := wrap_v (z := (1 : Int) + (v2 : Int)) (y := (L : Int)) (by omega) (by omega) (by omega)
  have hL1 : 1 ≤ L := by omega
  have hL2 : L ≤ 2 := by omega
  have HB2 : Hid (Below w.heap.size w w2) := Lib.hid (HB1.out.trans (ho2.below (by simp; omega) (by omega)))
  have HR2 : Hid (w2.heap[w.heap.size]? = some (.cells #[.int .i64 0, .int .i64 0, .slice none 0 0] 40 (0, 0))) := Lib.hid ((ho2.block _ (by omega) (by simp; omega)).trans HR1.out)
  have HS2 := Lib.hid hs2
  clear hs2 ho2 hL
  go_wp2_with fail
  refine (drawn_spec S L 1 _ HS2.out (by decide) hL1 hL2).mono ?_
  rintro e w3 ⟨T, v, bs, rfl, hT, ho, hf, ho3⟩
  obtain ⟨D, m, b1, rfl, o, rfl⟩ := ho
  have hz3 := ho3.size
  have HB3 : Hid (Below w.heap.size w w3) := Lib.hid (HB2.out.trans (ho3.below (by simp; omega) (by omega)))
  have hR3 : w3.heap[w.heap.size]? = some (.cells #[.int .i64 0, .int .i64 0, .slice none 0 0] 40 (0, 0)) := (ho3.block _ (by omega) (by simp; omega)).trans HR2.out
  have p0 : w3.cell? ⟨w.heap.size, 0, none⟩ = some (.int .i64 0) := cell_of_row w3 _ 0 _ _ (0, 0) hR3
  have p1 : w3.cell? ⟨w.heap.size, 1, none⟩ = some (.int .i64 0) := cell_of_row w3 _ 1 _ _ (0, 0) hR3
  have p2 : w3.cell? ⟨w.heap.size, 2, none⟩ = some (.slice none 0 0) := cell_of_row w3 _ 2 _ _ (0, 0) hR3
  have pf : ∀ o, w3.frozen? ⟨w.heap.size, o, none⟩ = false := fun o => blk_free hR3
  have hlw : w.heap.size < w3.heap.size := by omega
  have HBs : Since w w3 := ⟨HB3.out⟩
  have HT := Lib.hid hT
  have HO := Lib.hid o
  have HF := Lib.hid hf
  clear hT o hf ho3 hR3
  go_wp2
  refine bodyPost_ret (v := .agg #[.int .i64 T.letters, .int .i64 T.start, .slice D T.moves.length m]) (by simp [results, Tryd.results41, go_sem, p0, p1, p2]) rfl
    ⟨T, _, bs, rfl, HT.out, ⟨D, m, bs, rfl, HO.out.only (bs' := [w.heap.size]) (by repeat (first | with_reducible exact OnlyB.refl _ _ | with_reducible refine OnlyB.setCell ?_ (by simp) _ | with_reducible refine OnlyB.alloc ?_ _ | with_reducible refine OnlyB.drew ?_ | refine OnlyB.trans ?_ (OnlyB.of_below (by assumption) _))) (fun g' hg' => ?_), rfl⟩, (HF.out.low (by omega)).more (by first | omega | (simp only [sz_alloc, sz_set, sz_drew, sz_drewN]; omega) | (simp only [sz_alloc, sz_set, sz_drew, sz_drewN] at *; omega)), (by repeat (first | exact Below.refl _ _ | exact Since.out (by assumption) | refine Below.alloc ?_ (by first | omega | (simp only [sz_alloc, sz_set, sz_drew, sz_drewN]; omega) | (simp only [sz_alloc, sz_set, sz_drew, sz_drewN] at *; omega)) _ | refine Below.setCell ?_ (by first | omega | (simp only [sz_alloc, sz_set, sz_drew, sz_drewN]; omega) | (simp only [sz_alloc, sz_set, sz_drew, sz_drewN] at *; omega)) _ | refine Below.drew ?_ | refine below_drewN_ ?_ _))⟩
  have := HF.out.2 g' hg'; simp; omega

theorem a2Long_spec (A A' : Option Addr) (n c n' c' : Nat) (w : World) (h1 : n ≤ 9223372036854775807) (h2 : n' ≤ 9223372036854775807) :
    Calls Tryd.prog 40 #[.slice A n c, .slice A' n' c'] w fun e w' => e = .returned (.bool (decide (3000 < n) || decide (3000 < n'))) ∧ w = w' := by
  by_cases h : 3000 < n
  · have i1 : (3000 : Int) < (n : Int) := by omega
    have HD := Lib.hid (decide_eq_true h)
    rw [HD.out]
    clear h
    go_enter Tryd.func40, Tryd.ntmps40
    go_wp2
    go_ret
    exact ⟨rfl, rfl⟩
  · have i1 : ¬ (3000 : Int) < (n : Int) := by omega
    have HD := Lib.hid (decide_eq_false h)
    rw [HD.out]
    clear h
    by_cases h' : 3000 < n'
    · have i2 : (3000 : Int) < (n' : Int) := by omega
      have HD' := Lib.hid (decide_eq_true h')
      rw [HD'.out]
      clear h'
      go_enter Tryd.func40, Tryd.ntmps40
      go_wp2
      go_ret
      exact ⟨rfl, rfl⟩
    · have i2 : ¬ (3000 : Int) < (n' : Int) := by omega
      have HD' := Lib.hid (decide_eq_false h')
      rw [HD'.out]
      clear h'
      go_enter Tryd.func40, Tryd.ntmps40
      go_wp2
      go_ret
      exact ⟨rfl, rfl⟩
end Go.Proofs.YtelmooaenodfaaaDoor
