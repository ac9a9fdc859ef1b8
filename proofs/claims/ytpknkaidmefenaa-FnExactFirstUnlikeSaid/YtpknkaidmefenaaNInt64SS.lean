/-
  Contracts of the laws' own helpers for rows of rows (Int64SS): sizes, copies, comparisons, marks. Conditions: those in each statement.
-/
import Derived.Test.YtpknkaidmefenaaUInt64S
import Derived.Test.YtpknkaidmefenaaRows
import Derived.ProofKit
import Derived.StillTailTactics
set_option linter.unusedVariables false
set_option linter.unusedSimpArgs false
set_option maxRecDepth 100000
set_option maxHeartbeats 1000000
namespace Go.Proofs.Ytpknkaidmefenaa
open Go.RowKit

theorem uszInt64SS (A : Option Addr) (xs : List (List Int)) (c : Nat) (left : Int) (w : World) (h : RdS w w.heap.size A xs) (hl : xs.length ≤ 9223372036854775807) (h1 : 0 ≤ left) (h2 : left ≤ 1048576) :
    Calls Try.prog 18 #[.slice A xs.length c, .int .i64 left] w (RetLeft left (Cod.tot xs) w) := by
  rw [tot_list]
  by_cases hle : (xs.length : Int) ≤ left
  · go_enter Try.func18, Try.ntmps18
    go_wp2
    go_loopw [1, 5] (fun l i wr => ∃ (k : Nat) (r : Int), k ≤ xs.length ∧ i = .int .i64 k ∧ l = .int .i64 r ∧ 0 ≤ r ∧ r ≤ 1048576 ∧ Hid (r + (xs.length + totS (xs.take k) : Nat) = left) ∧ Since w wr) (fun _ i _ => xs.length - (intOf i).toNat)
    case atStart => exact ⟨0, left - xs.length, Nat.zero_le _, rfl, rfl, by omega, by omega, Lib.hid (by simp [totS]), ⟨Below.refl _ _⟩⟩
    case round =>
      obtain ⟨k, r, hk, rfl, rfl, hr0, hr1, hr, hs⟩ := hrel
      by_cases hlt : k < xs.length
      · obtain ⟨x, hx⟩ := get_some hlt
        obtain ⟨b, o, A', c', rfl, hbb, c1, hxl, rx⟩ := (h.below hs.out (Nat.le_refl _)).row hx
        have HX := Lib.hid hx
        clear hx
        go_wp2_with fail
        refine (uszInt64S A' x c' r _ (rx.more hs.out.size) hxl hr0 hr1).mono ?_
        rintro e w1 ⟨r', rfl, hr', hb1⟩
        have S1 : Since w w1 := ⟨below_cat hs.out hb1 hs.out.size⟩
        rcases hr' with rfl | ⟨q0, q1⟩
        · go_wp2
          go_ret
          exact ⟨_, rfl, .inl rfl, S1.out⟩
        · have q2 : r' ≤ 1048576 := by omega
          have Q := Lib.hid q1
          clear q1
          go_wp2
          go_roundw
          case rel => exact ⟨k + 1, r', by omega, by go_num, rfl, q0, q2, Lib.hid (by rw [take_snoc HX.out, totS_take]; have := hr.out; have := Q.out; push_cast at *; omega), S1⟩
          case measure => simp [intOf]; omega
      · go_wp2
        go_ret
        have hh := hr.out
        rw [List.take_of_length_le (by omega)] at hh
        exact ⟨_, rfl, .inr ⟨by omega, by exact hh⟩, hs.out⟩
  · go_enter Try.func18, Try.ntmps18
    go_wp2
    go_ret
    exact ⟨_, rfl, .inl rfl, Below.refl _ _⟩

theorem infoInt64SS : (Try.prog.info? 33).map (fun i => (i.zero, i.size, i.bytes)) = some (some (.slice none 0 0), 1, 24) := by kernel_rfl
theorem utoInt64SS (A : Option Addr) (xs : List (List Int)) (c : Nat) (w : World) (h : RdS w w.heap.size A xs) (hn : Cod.tot xs ≤ 1048576) : Calls Try.prog 23 #[.slice A xs.length c] w (RetOwn xs w) := by
  have hn0 : xs.length ≤ 1048576 := by rw [tot_list] at hn; omega
  have hn1 : totS xs ≤ 1048576 := by rw [tot_list] at hn; omega
  have hmk := make_full (P := Try.prog) 23 33 _ _ _ _ Try.underlying23 infoInt64SS rfl xs.length (by omega) (by omega)
  go_enter Try.func23, Try.ntmps23
  go_wp2
  go_loopw [4] (fun i wr => ∃ (k : Nat) (cur : Array Value) (bs : List Nat), k ≤ xs.length ∧ i = .int .i64 k ∧ wr.heap[w.heap.size]? = some (.cells cur 33 (0, 0)) ∧ Hid (cur.size = xs.length ∧ Els wr (xs.take k) (cur.toList.take k) bs ∧ Fresh (w.heap.size + 1) wr bs) ∧ Since w wr)
    (fun i _ => xs.length - (intOf i).toNat)
  case atStart => exact ⟨0, _, [], Nat.zero_le _, rfl, new_block rfl, Lib.hid ⟨by simp [size_madeCells], by simp [Els], List.nodup_nil, fun g hg => by simp at hg⟩, ⟨(by repeat (first | exact Below.refl _ _ | refine Below.alloc ?_ (by first | omega | (simp only [sz_alloc, sz_set, sz_drew, sz_drewN]; omega) | (simp only [sz_alloc, sz_set, sz_drew, sz_drewN] at *; omega)) _ | refine Below.setCell ?_ (by first | omega | (simp only [sz_alloc, sz_set, sz_drew, sz_drewN]; omega) | (simp only [sz_alloc, sz_set, sz_drew, sz_drewN] at *; omega)) _ | refine Below.drew ?_ | refine below_drewN_ ?_ _))⟩⟩
  case round =>
    obtain ⟨k, cur, bs, hk, rfl, hblk, hcur, hs⟩ := hrel
    have hg : w.heap.size < wr.heap.size := (Array.getElem?_eq_some_iff.1 hblk).1
    by_cases hlt : k < xs.length
    · obtain ⟨x, hx⟩ := get_some hlt
      obtain ⟨b, o, A', c', rfl, hbb, c1, hxl, rx⟩ := (h.below hs.out (Nat.le_refl _)).row hx
      have htx := tot_at hx
      have HX := Lib.hid hx
      have HBLK := Lib.hid hblk
      clear hblk hx
      go_wp2_with fail
      refine (utoInt64S A' x c' _ (rx.more hs.out.size) (by omega)).mono ?_
      rintro e w1 ⟨D, d, b1, rfl, ho, hf, hb1⟩
      have hblk1 := Lib.hid ((hb1.block _ hg).trans HBLK.out)
      obtain ⟨u0, hu0⟩ := blk_cell (i := k) hblk1.out (by have := hcur.out.1; omega)
      have hf0 := blk_free (i := k) hblk1.out
      have hz1 := hb1.size
      go_wp2
      go_roundw
      case rel =>
        obtain ⟨hz, he, hfr⟩ := hcur.out
        refine ⟨k + 1, _, bs ++ b1, by omega, by go_num, blk_set hblk1.out _, Lib.hid ⟨by simpa using hz, ?_, ?_⟩, ⟨(below_cat hs.out hb1 hs.out.size).setCell (Nat.le_refl _) _⟩⟩
        · rw [fill1 _ (by omega), take_snoc HX.out]
          refine (he.keep fun g hg' => ?_).snoc ⟨D, d, rfl, hxl, ho.keep fun g hg' => ?_⟩
          · have := hfr.2 g hg'
            exact (Below.heap_setCell _ _ _ _ (by simp; omega)).trans (hb1.block g (by omega))
          · have := hf.2 g hg'
            exact Below.heap_setCell _ _ _ _ (by simp; omega)
        · refine ⟨List.nodup_append.2 ⟨hfr.1, hf.1, fun g hg' g' hg'' e => ?_⟩, fun g hg' => ?_⟩
          · have := hfr.2 g hg'
            have := hf.2 g' hg''
            omega
          · rw [sz_set]
            rcases List.mem_append.1 hg' with hg' | hg'
            · have := hfr.2 g hg'; omega
            · have := hf.2 g hg'; omega
      case measure => simp [intOf]; omega
    · go_wp2
      go_ret
      obtain ⟨hz, he, hfr⟩ := hcur.out
      rw [List.take_of_length_le (by omega)] at he
      refine ⟨_, _, _, rfl, OwnS.of hblk he, ⟨List.nodup_cons.2 ⟨fun hm => ?_, hfr.1⟩, fun g hg' => ?_⟩, hs.out⟩
      · have := hfr.2 _ hm; omega
      · rcases List.mem_cons.1 hg' with rfl | hg'
        · exact ⟨Nat.le_refl _, hg⟩
        · have := hfr.2 g hg'; omega

theorem ueqInt64SS (A A' : Option Addr) (xs : List (List Int)) (c c' : Nat) (w : World) (h1 : RdS w w.heap.size A xs) (h2 : RdS w w.heap.size A' xs) (hn : Cod.tot xs ≤ 140737488355328) :
    Calls Try.prog 29 #[.slice A xs.length c, .slice A' xs.length c'] w fun e w' => e = .returned (.bool true) ∧ Below w.heap.size w w' := by
  have hn0 : xs.length ≤ 140737488355328 := by rw [tot_list] at hn; omega
  have hn1 : totS xs ≤ 140737488355328 := by rw [tot_list] at hn; omega
  go_enter Try.func29, Try.ntmps29
  go_wp2
  go_loopw [5] (fun i wr => ∃ k : Nat, k ≤ xs.length ∧ i = .int .i64 k ∧ Since w wr) (fun i _ => xs.length - (intOf i).toNat)
  case atStart => exact ⟨0, Nat.zero_le _, rfl, ⟨Below.refl _ _⟩⟩
  case round =>
    obtain ⟨k, hk, rfl, hs⟩ := hrel
    by_cases hlt : k < xs.length
    · obtain ⟨x, hx⟩ := get_some hlt
      obtain ⟨b, o, D, d, rfl, hbb, c1, hxl, rx⟩ := (h1.below hs.out (Nat.le_refl _)).row hx
      obtain ⟨b', o', D', d', rfl, hbb', c3, hxl', rx'⟩ := (h2.below hs.out (Nat.le_refl _)).row hx
      have htx := tot_at hx
      have i1 : (0 : Int) ≤ (k : Int) := by omega
      have i2 : (k : Int) < (xs.length : Int) := by omega
      clear hx
      go_wp2
      go_still_tail 8, (by kernel_rfl)
      go_wp2_with fail
      refine (ueqInt64S D D' x d d' _ ((rx.more hs.out.size).up (by repeat (first | exact Below.refl _ _ | refine Below.alloc ?_ (by first | omega | (simp only [sz_alloc, sz_set, sz_drew, sz_drewN]; omega) | (simp only [sz_alloc, sz_set, sz_drew, sz_drewN] at *; omega)) _ | refine Below.setCell ?_ (by first | omega | (simp only [sz_alloc, sz_set, sz_drew, sz_drewN]; omega) | (simp only [sz_alloc, sz_set, sz_drew, sz_drewN] at *; omega)) _ | refine Below.drew ?_ | refine below_drewN_ ?_ _))) ((rx'.more hs.out.size).up (by repeat (first | exact Below.refl _ _ | refine Below.alloc ?_ (by first | omega | (simp only [sz_alloc, sz_set, sz_drew, sz_drewN]; omega) | (simp only [sz_alloc, sz_set, sz_drew, sz_drewN] at *; omega)) _ | refine Below.setCell ?_ (by first | omega | (simp only [sz_alloc, sz_set, sz_drew, sz_drewN]; omega) | (simp only [sz_alloc, sz_set, sz_drew, sz_drewN] at *; omega)) _ | refine Below.drew ?_ | refine below_drewN_ ?_ _))) (by omega)).mono ?_
      rintro e w1 ⟨rfl, hb1⟩
      go_wp2
      go_roundw
      case rel => exact ⟨k + 1, by omega, by go_num, ⟨below_cat hs.out.drew hb1 hs.out.size⟩⟩
      case measure => simp [intOf]; omega
    · go_wp2
      go_ret
      exact ⟨rfl, hs.out⟩


end Go.Proofs.Ytpknkaidmefenaa
