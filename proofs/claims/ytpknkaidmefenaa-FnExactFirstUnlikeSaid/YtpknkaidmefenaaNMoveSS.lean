/-
  Contracts of the laws' own helpers for rows of rows (MoveSS): sizes, copies, comparisons, marks. Conditions: those in each statement.
-/
import Derived.Test.YtpknkaidmefenaaUMoveS
import Derived.Test.YtpknkaidmefenaaRows
import Derived.ProofKit
import Derived.StillTailTactics
set_option linter.unusedVariables false
set_option linter.unusedSimpArgs false
set_option maxRecDepth 100000
set_option maxHeartbeats 1000000
namespace Go.Proofs.Ytpknkaidmefenaa
open Go.RowKit

theorem uszMoveSS (A : Option Addr) (xs : List (List (Int × Int))) (c : Nat) (left : Int) (w : World) (h : RdS w w.heap.size A xs) (hl : xs.length ≤ 9223372036854775807) (h1 : 0 ≤ left) (h2 : left ≤ 1048576) :
    Calls Try.prog 58 #[.slice A xs.length c, .int .i64 left] w (RetLeft left (Cod.tot xs) w) := by
  rw [tot_list]
  by_cases hle : (xs.length : Int) ≤ left
  · go_enter Try.func58, Try.ntmps58
    go_wp2
    go_loopw [1, 5] (fun l i wr => ∃ (k : Nat) (r : Int), k ≤ xs.length ∧ i = .int .i64 k ∧ l = .int .i64 r ∧ 0 ≤ r ∧ r ≤ 1048576 ∧ Hid (r + (xs.length + totS (xs.take k) : Nat) = left) ∧ Since w wr) (fun _ i _ => xs.length - (intOf i).toNat)
    case atStart => exact ⟨0, left - xs.length, Nat.zero_le _, rfl, rfl, by omega, by omega, Lib.hid (by simp [totS]), ⟨Below.refl _ _⟩⟩
    case round =>
      obtain ⟨k, r, hk, rfl, rfl, hr0, hr1, hr, hs⟩ := hrel
      by_cases hlt : k < xs.length
      · obtain ⟨x, hx⟩ := get_some hlt
        obtain ⟨b, o, A', c', rfl, hbb, c1, hxl, rx⟩ := (h.below hs.out (Nat.le_refl _)).row hx
        have HX := Lib.hid hx
        clear hx
        go_wp2_with fail
        refine (uszMoveS A' x c' r _ (rx.more hs.out.size) hxl hr0 hr1).mono ?_
        rintro e w1 ⟨r', rfl, hr', hb1⟩
        have S1 : Since w w1 := ⟨below_cat hs.out hb1 hs.out.size⟩
        rcases hr' with rfl | ⟨q0, q1⟩
        · go_wp2
          go_ret
          exact ⟨_, rfl, .inl rfl, S1.out⟩
        · have q2 : r' ≤ 1048576 := by omega
          have Q := Lib.hid q1
          clear q1
          go_wp2
          go_roundw
          case rel => exact ⟨k + 1, r', by omega, by go_num, rfl, q0, q2, Lib.hid (by rw [take_snoc HX.out, totS_take]; have := hr.out; have := Q.out; push_cast at *; omega), S1⟩
          case measure => simp [intOf]; omega
      · go_wp2
        go_ret
        have hh := hr.out
        rw [List.take_of_length_le (by omega)] at hh
        exact ⟨_, rfl, .inr ⟨by omega, by exact hh⟩, hs.out⟩
  · go_enter Try.func58, Try.ntmps58
    go_wp2
    go_ret
    exact ⟨_, rfl, .inl rfl, Below.refl _ _⟩

theorem infoMoveSS : (Try.prog.info? 75).map (fun i => (i.zero, i.size, i.bytes)) = some (some (.slice none 0 0), 1, 24) := by kernel_rfl
theorem utoMoveSS (A : Option Addr) (xs : List (List (Int × Int))) (c : Nat) (w : World) (h : RdS w w.heap.size A xs) (hn : Cod.tot xs ≤ 1048576) : Calls Try.prog 62 #[.slice A xs.length c] w (RetOwn xs w) := by
  have hn0 : xs.length ≤ 1048576 := by rw [tot_list] at hn; omega
  have hn1 : totS xs ≤ 1048576 := by rw [tot_list] at hn; omega
  have hmk := make_full (P := Try.prog) 70 75 _ _ _ _ Try.underlying70 infoMoveSS rfl xs.length (by omega) (by omega)
  go_enter Try.func62, Try.ntmps62
  go_wp2
  go_loopw [4] (fun i wr => ∃ (k : Nat) (cur : Array Value) (bs : List Nat), k ≤ xs.length ∧ i = .int .i64 k ∧ wr.heap[w.heap.size]? = some (.cells cur 75 (0, 0)) ∧ Hid (cur.size = xs.length ∧ Els wr (xs.take k) (cur.toList.take k) bs ∧ Fresh (w.heap.size + 1) wr bs) ∧ Since w wr)
    (fun i _ => xs.length - (intOf i).toNat)
  case atStart => exact ⟨0, _, [], Nat.zero_le _, rfl, new_block rfl, Lib.hid ⟨by simp [size_madeCells], by simp [Els], List.nodup_nil, fun g hg => by simp at hg⟩, ⟨(by repeat (first | exact Below.refl _ _ | refine Below.alloc ?_ (by first | omega | (simp only [sz_alloc, sz_set, sz_drew, sz_drewN]; omega) | (simp only [sz_alloc, sz_set, sz_drew, sz_drewN] at *; omega)) _ | refine Below.setCell ?_ (by first | omega | (simp only [sz_alloc, sz_set, sz_drew, sz_drewN]; omega) | (simp only [sz_alloc, sz_set, sz_drew, sz_drewN] at *; omega)) _ | refine Below.drew ?_ | refine below_drewN_ ?_ _))⟩⟩
  case round =>
    obtain ⟨k, cur, bs, hk, rfl, hblk, hcur, hs⟩ := hrel
    have hg : w.heap.size < wr.heap.size := (Array.getElem?_eq_some_iff.1 hblk).1
    by_cases hlt : k < xs.length
    · obtain ⟨x, hx⟩ := get_some hlt
      obtain ⟨b, o, A', c', rfl, hbb, c1, hxl, rx⟩ := (h.below hs.out (Nat.le_refl _)).row hx
      have htx := tot_at hx
      have HX := Lib.hid hx
      have HBLK := Lib.hid hblk
      clear hblk hx
      go_wp2_with fail
      refine (utoMoveS A' x c' _ (rx.more hs.out.size) (by omega)).mono ?_
      rintro e w1 ⟨D, d, b1, rfl, ho, hf, hb1⟩
      have hblk1 := Lib.hid ((hb1.block _ hg).trans HBLK.out)
      obtain ⟨u0, hu0⟩ := blk_cell (i := k) hblk1.out (by have := hcur.out.1; omega)
      have hf0 := blk_free (i := k) hblk1.out
      have hz1 := hb1.size
      go_wp2
      go_roundw
      case rel =>
        obtain ⟨hz, he, hfr⟩ := hcur.out
        refine ⟨k + 1, _, bs ++ b1, by omega, by go_num, blk_set hblk1.out _, Lib.hid ⟨by simpa using hz, ?_, ?_⟩, ⟨(below_cat hs.out hb1 hs.out.size).setCell (Nat.le_refl _) _⟩⟩
        · rw [fill1 _ (by omega), take_snoc HX.out]
          refine (he.keep fun g hg' => ?_).snoc ⟨D, d, rfl, hxl, ho.keep fun g hg' => ?_⟩
          · have := hfr.2 g hg'
            exact (Below.heap_setCell _ _ _ _ (by simp; omega)).trans (hb1.block g (by omega))
          · have := hf.2 g hg'
            exact Below.heap_setCell _ _ _ _ (by simp; omega)
        · refine ⟨List.nodup_append.2 ⟨hfr.1, hf.1, fun g hg' g' hg'' e => ?_⟩, fun g hg' => ?_⟩
          · have := hfr.2 g hg'
            have := hf.2 g' hg''
            omega
          · rw [sz_set]
            rcases List.mem_append.1 hg' with hg' | hg'
            · have := hfr.2 g hg'; omega
            · have := hf.2 g hg'; omega
      case measure => simp [intOf]; omega
    · go_wp2
      go_ret
      obtain ⟨hz, he, hfr⟩ := hcur.out
      rw [List.take_of_length_le (by omega)] at he
      refine ⟨_, _, _, rfl, OwnS.of hblk he, ⟨List.nodup_cons.2 ⟨fun hm => ?_, hfr.1⟩, fun g hg' => ?_⟩, hs.out⟩
      · have := hfr.2 _ hm; omega
      · rcases List.mem_cons.1 hg' with rfl | hg'
        · exact ⟨Nat.le_refl _, hg⟩
        · have := hfr.2 g hg'; omega

theorem ueqMoveSS (A A' : Option Addr) (xs : List (List (Int × Int))) (c c' : Nat) (w : World) (h1 : RdS w w.heap.size A xs) (h2 : RdS w w.heap.size A' xs) (hn : Cod.tot xs ≤ 140737488355328) :
    Calls Try.prog 68 #[.slice A xs.length c, .slice A' xs.length c'] w fun e w' => e = .returned (.bool true) ∧ Below w.heap.size w w' := by
  have hn0 : xs.length ≤ 140737488355328 := by rw [tot_list] at hn; omega
  have hn1 : totS xs ≤ 140737488355328 := by rw [tot_list] at hn; omega
  go_enter Try.func68, Try.ntmps68
  go_wp2
  go_loopw [5] (fun i wr => ∃ k : Nat, k ≤ xs.length ∧ i = .int .i64 k ∧ Since w wr) (fun i _ => xs.length - (intOf i).toNat)
  case atStart => exact ⟨0, Nat.zero_le _, rfl, ⟨Below.refl _ _⟩⟩
  case round =>
    obtain ⟨k, hk, rfl, hs⟩ := hrel
    by_cases hlt : k < xs.length
    · obtain ⟨x, hx⟩ := get_some hlt
      obtain ⟨b, o, D, d, rfl, hbb, c1, hxl, rx⟩ := (h1.below hs.out (Nat.le_refl _)).row hx
      obtain ⟨b', o', D', d', rfl, hbb', c3, hxl', rx'⟩ := (h2.below hs.out (Nat.le_refl _)).row hx
      have htx := tot_at hx
      have i1 : (0 : Int) ≤ (k : Int) := by omega
      have i2 : (k : Int) < (xs.length : Int) := by omega
      clear hx
      go_wp2
      go_still_tail 8, (by kernel_rfl)
      go_wp2_with fail
      refine (ueqMoveS D D' x d d' _ ((rx.more hs.out.size).up (by repeat (first | exact Below.refl _ _ | refine Below.alloc ?_ (by first | omega | (simp only [sz_alloc, sz_set, sz_drew, sz_drewN]; omega) | (simp only [sz_alloc, sz_set, sz_drew, sz_drewN] at *; omega)) _ | refine Below.setCell ?_ (by first | omega | (simp only [sz_alloc, sz_set, sz_drew, sz_drewN]; omega) | (simp only [sz_alloc, sz_set, sz_drew, sz_drewN] at *; omega)) _ | refine Below.drew ?_ | refine below_drewN_ ?_ _))) ((rx'.more hs.out.size).up (by repeat (first | exact Below.refl _ _ | refine Below.alloc ?_ (by first | omega | (simp only [sz_alloc, sz_set, sz_drew, sz_drewN]; omega) | (simp only [sz_alloc, sz_set, sz_drew, sz_drewN] at *; omega)) _ | refine Below.setCell ?_ (by first | omega | (simp only [sz_alloc, sz_set, sz_drew, sz_drewN]; omega) | (simp only [sz_alloc, sz_set, sz_drew, sz_drewN] at *; omega)) _ | refine Below.drew ?_ | refine below_drewN_ ?_ _))) (by omega)).mono ?_
      rintro e w1 ⟨rfl, hb1⟩
      go_wp2
      go_roundw
      case rel => exact ⟨k + 1, by omega, by go_num, ⟨below_cat hs.out.drew hb1 hs.out.size⟩⟩
      case measure => simp [intOf]; omega
    · go_wp2
      go_ret
      exact ⟨rfl, hs.out⟩

theorem umarkMoveSS (A : Option Addr) (xs : List (List (Int × Int))) (c k0 : Nat) (bs : List Nat) (w : World) (h : OwnS w A xs bs) (hd : bs.Nodup) (hlt : ∀ g ∈ bs, g < w.heap.size) (hk0 : k0 + cntS xs ≤ 4611686018427387904) (hn : Cod.tot xs ≤ 1048576) :
    Calls Try.prog 69 #[.slice A xs.length c, .int .i64 k0] w (RetMark A xs k0 bs w) := by
  have hn0 : xs.length ≤ 1048576 := by rw [tot_list] at hn; omega
  have hn1 : totS xs ≤ 1048576 := by rw [tot_list] at hn; omega
  rcases h with ⟨rfl, rfl⟩ | ⟨g, t, cur, cs, b2, rfl, hg, hc, he, rfl⟩
  · go_enter Try.func69, Try.ntmps69
    go_wp2
    go_loopw [1, 5] (fun kk i wr => kk = .int .i64 k0 ∧ i = .int .i64 0 ∧ wr = w) (fun _ i _ => 0)
    case atStart => exact ⟨rfl, rfl, rfl⟩
    case round =>
      obtain ⟨rfl, rfl, rfl⟩ := hrel
      go_wp2
      go_ret
      exact ⟨ret_int (by simp [cntS]), .inl ⟨rfl, rfl⟩, OnlyB.refl _ _⟩
  · rw [List.nodup_cons] at hd
    obtain ⟨hgb, hd2⟩ := hd
    have HG := Lib.hid hg
    have HC := Lib.hid hc
    have HE := Lib.hid he
    have hgl : g < w.heap.size := hlt g (List.mem_cons_self ..)
    have hl2 : ∀ x ∈ b2, x < w.heap.size := fun x hx => hlt x (List.mem_cons_of_mem _ hx)
    clear hg hc he hlt
    go_enter Try.func69, Try.ntmps69
    go_wp2
    go_loopw [1, 5] (fun kk i wr => ∃ (k : Nat), k ≤ xs.length ∧ i = .int .i64 k ∧ kk = .int .i64 ((k0 + cntS (xs.take k) : Nat) : Int) ∧ Hid (Els wr (mkS k0 (xs.take k) ++ xs.drop k) cs b2) ∧ Hid (OnlyB b2 w wr)) (fun _ i _ => xs.length - (intOf i).toNat)
    case atStart => exact ⟨0, Nat.zero_le _, rfl, by simp [cntS], Lib.hid (by simpa [mkS] using HE.out), Lib.hid (OnlyB.refl _ _)⟩
    case round =>
      obtain ⟨k, hk, rfl, rfl, hels, ho⟩ := hrel
      have hgw : Hid (wr.heap[g]? = some (.cells cur t (0, 0))) := (ho.out.block g hgl hgb).trans HG.out
      by_cases hlt2 : k < xs.length
      · obtain ⟨x, hx⟩ := get_some hlt2
        have htx := tot_at hx
        have hcx := cntS_split hx
        rw [cnt_list] at hcx
        have h1 := hels.out
        rw [drop_cons hx] at h1
        obtain ⟨c1, cc, c2, e1, bb, e2, hcs, hbs, p1, ⟨D, d, rfl, hxl, po⟩, p2⟩ := h1.split
        have hc1 : c1.length = k := by
          have := p1.len
          rw [mkS_length, List.length_take] at this
          simp [Cod.size] at this
          omega
        have hcell : wr.cell? ⟨g, k, none⟩ = some (.slice D x.length d) := by
          rw [cell_of_row wr g k cur t (0, 0) hgw.out]
          have h2 : cs[k]? = some (.slice D x.length d) := by rw [hcs, List.getElem?_append_right (by omega), hc1, Nat.sub_self]; rfl
          rw [← HC.out, List.getElem?_take] at h2
          split at h2
          · simpa using h2
          · cases h2
        have HB := Lib.hid hbs
        have HCS := Lib.hid hcs
        have HX := Lib.hid hx
        have nd : e1.Nodup ∧ (bb ++ e2).Nodup ∧ ∀ a ∈ e1, ∀ b ∈ bb ++ e2, a ≠ b := by rw [hbs] at hd2; exact List.nodup_append.1 hd2
        have nd2 := List.nodup_append.1 nd.2.1
        have lt2 : ∀ y ∈ bb, y < wr.heap.size := fun y hy => Nat.lt_of_lt_of_le (hl2 y (by rw [hbs]; simp [hy])) ho.out.size
        have lt1 : ∀ y ∈ e1, y < wr.heap.size := fun y hy => Nat.lt_of_lt_of_le (hl2 y (by rw [hbs]; simp [hy])) ho.out.size
        have lt3 : ∀ y ∈ e2, y < wr.heap.size := fun y hy => Nat.lt_of_lt_of_le (hl2 y (by rw [hbs]; simp [hy])) ho.out.size
        clear hbs hcs hx hc1 h1
        go_wp2_with fail
        refine (umarkMoveS D x d (k0 + cntS (xs.take k)) bb _ po nd2.1 lt2 (by omega) (by omega)).mono ?_
        rintro e w1 ⟨rfl, q1, q2⟩
        go_wp2
        go_roundw
        case rel =>
          refine ⟨k + 1, by omega, by go_num, ?_, Lib.hid ?_, Lib.hid ?_⟩
          · rw [take_snoc HX.out, cntS_snoc, cnt_list]
            push_cast
            rw [Int.add_assoc]
          · rw [take_snoc HX.out, mkS_snoc, mark_list, List.append_assoc, List.singleton_append, HCS.out, HB.out]
            refine (p1.keep fun y hy => q2.block y (lt1 y hy) fun hm => nd.2.2 y hy y (List.mem_append_left _ hm) rfl).join ?_
            exact ⟨[.slice D x.length d], c2, bb, e2, rfl, rfl, ⟨D, d, by rw [mkS_length], by rw [mkS_length]; exact hxl, q1⟩, p2.keep fun y hy => q2.block y (lt3 y hy) fun hm => nd2.2.2 y hm y hy rfl⟩
          · exact ho.out.trans (q2.mono fun y hy => by rw [HB.out]; simp [hy])
        case measure => simp [intOf]; omega
      · go_wp2
        go_ret
        have h1 := hels.out
        rw [List.take_of_length_le (by omega), List.drop_eq_nil_of_le (by omega), List.append_nil] at h1
        refine ⟨ret_int ?_, .inr ⟨g, t, cur, cs, b2, rfl, hgw.out, HC.out, h1, rfl⟩, ho.out.mono fun y hy => List.mem_cons_of_mem _ hy⟩
        rw [List.take_of_length_le (by omega)]

theorem uheldMoveSS (A : Option Addr) (xs : List (List (Int × Int))) (c k0 : Nat) (w : World) (h : RdS w w.heap.size A (mkS k0 xs)) (hk0 : k0 + cntS xs ≤ 4611686018427387904) (hn : Cod.tot xs ≤ 1048576) :
    Calls Try.prog 70 #[.slice A xs.length c, .int .i64 k0] w fun e w' => e = .returned (.int .i64 ((k0 + cntS xs : Nat) : Int)) ∧ Below w.heap.size w w' := by
  have hn0 : xs.length ≤ 1048576 := by rw [tot_list] at hn; omega
  have hn1 : totS xs ≤ 1048576 := by rw [tot_list] at hn; omega
  go_enter Try.func70, Try.ntmps70
  go_wp2
  go_loopw [1, 5] (fun kk i wr => ∃ (k : Nat), k ≤ xs.length ∧ i = .int .i64 k ∧ kk = .int .i64 ((k0 + cntS (xs.take k) : Nat) : Int) ∧ Since w wr) (fun _ i _ => xs.length - (intOf i).toNat)
  case atStart => exact ⟨0, Nat.zero_le _, rfl, by simp [cntS], ⟨Below.refl _ _⟩⟩
  case round =>
    obtain ⟨k, hk, rfl, rfl, hs⟩ := hrel
    by_cases hlt : k < xs.length
    · obtain ⟨x, hx⟩ := get_some hlt
      have htx := tot_at hx
      have hcx := cntS_split hx
      rw [cnt_list] at hcx
      have hmx := mkS_get k0 xs k x hx
      rw [mark_list] at hmx
      obtain ⟨b, o, D, d, rfl, hbb, c1, hxl, rx⟩ := (h.below hs.out (Nat.le_refl _)).row hmx
      rw [mkS_length] at c1
      have HX := Lib.hid hx
      clear hx hmx
      go_wp2_with fail
      refine (uheldMoveS D x d (k0 + cntS (xs.take k)) _ (rx.more hs.out.size) (by omega) (by omega)).mono ?_
      rintro e w1 ⟨rfl, hb1⟩
      go_wp2
      go_roundw
      case rel =>
        refine ⟨k + 1, by omega, by go_num, ?_, ⟨below_cat hs.out hb1 hs.out.size⟩⟩
        rw [take_snoc HX.out, cntS_snoc, cnt_list]
        push_cast
        rw [Int.add_assoc]
      case measure => simp [intOf]; omega
    · go_wp2
      go_ret
      refine ⟨ret_int ?_, hs.out⟩
      rw [List.take_of_length_le (by omega)]
end Go.Proofs.Ytpknkaidmefenaa
