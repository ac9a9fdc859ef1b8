/-
  Contracts of the laws' own helpers for rows of pairs (Move): sizes, copies, comparisons, marks. Conditions: those in each statement.
-/
import Derived.Test.YtpknkaidmefenaaMem
import Derived.Test.YtpknkaidmefenaaRows
import Derived.ProofKit
import Derived.StillTailTactics
import Derived.Deep.RegionWith
set_option linter.unusedVariables false
set_option linter.unusedSimpArgs false
set_option maxRecDepth 100000
set_option maxHeartbeats 1000000
namespace Go.Proofs.Ytpknkaidmefenaa
open Go.RowKit

theorem infoMove : (Try.prog.info? 73).map (fun i => (i.zero, i.size, i.bytes)) = some (some (.agg #[.int .i64 0, .int .i64 0]), 2, 16) := by kernel_rfl
/-- The model's == at the pairs' type. -/
theorem eqGuardMove : Try.prog.eqGuardType Try.prog.depth 73 = false := by kernel_rfl
theorem equalMove (x y : Int × Int) (W : World) : (Op.equalIn 10000 73 (.agg #[.int .i64 x.1, .int .i64 x.2]) (.agg #[.int .i64 y.1, .int .i64 y.2])).run Try.prog W = .ok (decide (x = y)) W := by
  have hS : Try.prog.underlying 73 = some (.struct (Try.prog.fieldsOf 73)) := by kernel_rfl
  have hp : Try.prog.stoodInHeld 73 = false := by kernel_rfl
  rw [show (10000 : Nat) = 9999 + 1 from rfl, run_equalIn_agg W 9999 _ _ _ hS hp]
  obtain ⟨a, b⟩ := x
  obtain ⟨c, d⟩ := y
  simp [Program.fieldsOf, Try.underlying73, Try.underlying2, Op.eqFields, part, run_equalIn_int, go_sem]
  by_cases h1 : a = c <;> by_cases h2 : b = d <;> simp [h1, h2]
theorem toMove (x : Int × Int) (w : World) :
    Calls Try.prog 85 #[.agg #[.int .i64 x.1, .int .i64 x.2]] w fun e w' => e = .returned (.agg #[.int .i64 x.1, .int .i64 x.2]) ∧ Below w.heap.size w w' := by
  obtain ⟨a, b⟩ := x
  go_enter Try.func85, Try.ntmps85
  go_wp2
  exact bodyPost_ret (v := .agg #[.int .i64 a, .int .i64 b]) (by simp [results, Try.results85, go_sem]) rfl ⟨rfl, (((Below.refl _ _).alloc (Nat.le_refl _) _).alloc (by simp) _).alloc (by simp; omega) _⟩

theorem toMoveS (A : Option Addr) (xs : List (Int × Int)) (c : Nat) (w : World) (h1 : RdS w w.heap.size A xs) (hn : xs.length ≤ 1048576) :
    Calls Try.prog 77 #[.slice A xs.length c] w fun e w' => e = .returned (.slice (some ⟨w.heap.size, 0, none⟩) xs.length xs.length) ∧ OwnS w' (some ⟨w.heap.size, 0, none⟩) xs [w.heap.size] ∧ Below w.heap.size w w' ∧ w.heap.size < w'.heap.size := by
  have hmk := make_full (P := Try.prog) 75 73 _ _ _ _ Try.underlying75 infoMove rfl xs.length (by omega) (by omega)
  go_enter Try.func77, Try.ntmps77
  go_wp2
  go_loopw [4] (fun i wr => ∃ (k : Nat) (cur : Array Value), k ≤ xs.length ∧ i = .int .i64 k ∧ wr.heap[w.heap.size]? = some (.cells cur 73 (0, 0)) ∧ Hid (cur.size = xs.length * 2 ∧ Els wr (xs.take k) (cur.toList.take (k * 2)) []) ∧ Below w.heap.size w wr)
    (fun i _ => xs.length - (intOf i).toNat)
  case atStart => exact ⟨0, _, Nat.zero_le _, rfl, heap_alloc_new w _, Lib.hid ⟨size_madeCells _ _, by simp [Els]⟩, (Below.refl _ _).alloc (Nat.le_refl _) _⟩
  case round =>
    obtain ⟨k, cur, hk, rfl, hblk, hcur, hb⟩ := hrel
    by_cases hlt : k < xs.length
    · obtain ⟨x, hx⟩ := get_some hlt
      obtain ⟨b, o, rfl, hbb, c1, c2⟩ := (h1.below hb (Nat.le_refl _)).pair hx
      have HX := Lib.hid hx
      clear hx
      have hg : w.heap.size < wr.heap.size := (Array.getElem?_eq_some_iff.1 hblk).1
      have HBLK := Lib.hid hblk
      clear hblk
      go_wp2_with (go_at_call 85; refine (toMove x _).mono ?_; rintro e w1 ⟨rfl, hb1⟩; have hblk1 := Lib.hid ((hb1.block _ hg).trans HBLK.out); obtain ⟨u0, hu0⟩ := blk_cell (i := k * 2) hblk1.out (by have := hcur.out.1; omega); obtain ⟨u1, hu1⟩ := blk_cell (i := k * 2 + 1) hblk1.out (by have := hcur.out.1; omega); have hf0 := blk_free (i := k * 2) hblk1.out; have hf1 := blk_free (i := k * 2 + 1) hblk1.out)
      go_roundw
      case rel =>
        have hz := hcur.out.1
        refine ⟨k + 1, _, by omega, by go_num, blk_set (blk_set hblk1.out _) _, Lib.hid ⟨by simpa using hz, ?_⟩, ((below_cat hb hb1 hb.size).setCell (Nat.le_refl _) _).setCell (Nat.le_refl _) _⟩
        rw [fill2 _ _ (by omega), take_snoc HX.out]
        exact (hcur.out.2.keep (by simp)).snoc (b := []) ⟨rfl, rfl⟩
      case measure => simp [intOf]; omega
    · go_wp2
      go_ret
      obtain ⟨hz, he⟩ := hcur.out
      rw [List.take_of_length_le (by omega)] at he
      exact ⟨rfl, OwnS.of hblk he, hb, (Array.getElem?_eq_some_iff.1 hblk).1⟩

theorem eqMove (x : Int × Int) (w : World) :
    Calls Try.prog 87 #[.agg #[.int .i64 x.1, .int .i64 x.2], .agg #[.int .i64 x.1, .int .i64 x.2]] w fun e w' => e = .returned (.bool true) ∧ Below w.heap.size w w' := by
  obtain ⟨a, b⟩ := x
  go_enter Try.func87, Try.ntmps87
  go_wp2
  go_ret
  exact ⟨rfl, ((Below.refl _ _).alloc (Nat.le_refl _) _).alloc (by simp) _⟩

theorem eqMoveS (A A' : Option Addr) (xs : List (Int × Int)) (c c' : Nat) (w : World) (h1 : RdS w w.heap.size A xs) (h2 : RdS w w.heap.size A' xs) (hn : xs.length ≤ 140737488355328) :
    Calls Try.prog 81 #[.slice A xs.length c, .slice A' xs.length c'] w fun e w' => e = .returned (.bool true) ∧ Below w.heap.size w w' := by
  go_enter Try.func81, Try.ntmps81
  go_wp2
  go_loopw [5] (fun i wr => ∃ k : Nat, k ≤ xs.length ∧ i = .int .i64 k ∧ Below w.heap.size w wr) (fun i _ => xs.length - (intOf i).toNat)
  case atStart => exact ⟨0, Nat.zero_le _, rfl, Below.refl _ _⟩
  case round =>
    obtain ⟨k, hk, rfl, hb⟩ := hrel
    by_cases hlt : k < xs.length
    · obtain ⟨x, hx⟩ := get_some hlt
      obtain ⟨b, o, rfl, hbb, c1, c2⟩ := (h1.below hb (Nat.le_refl _)).pair hx
      obtain ⟨b', o', rfl, hbb', c3, c4⟩ := (h2.below hb (Nat.le_refl _)).pair hx
      have i1 : (0 : Int) ≤ (k : Int) := by omega
      have i2 : (k : Int) < (xs.length : Int) := by omega
      clear hx
      go_wp2
      go_still_tail 8, (by kernel_rfl)
      go_wp2_with (go_at_call 87; refine (eqMove x _).mono ?_; rintro e w1 ⟨rfl, hb1⟩)
      go_roundw
      case rel => exact ⟨k + 1, by omega, by go_num, below_cat hb.drew hb1 hb.size⟩
      case measure => simp [intOf]; omega
    · go_wp2
      go_ret
      exact ⟨rfl, hb⟩

/-- What the marking of a row of pairs does. -/
theorem markMoveS (A : Option Addr) (xs : List (Int × Int)) (c k0 : Nat) (bs : List Nat) (w : World) (h : OwnS w A xs bs) (hk0 : k0 ≤ 4611686018427387904) (hn : xs.length ≤ 1048576) :
    Calls Try.prog 82 #[.slice A xs.length c, .int .i64 k0] w fun e w' => e = .returned (.int .i64 ((k0 + cntS xs : Nat) : Int)) ∧ OwnS w' A (mkS k0 xs) bs ∧ OnlyB bs w w' := by
  have hcnt : Hid (∀ n, n ≤ xs.length → cntS (xs.take n) = n * 2) := by
    intro n hn
    induction n with
    | zero => simp [cntS]
    | succ n ih =>
      obtain ⟨x, hx⟩ := get_some (show n < xs.length by omega)
      rw [take_snoc hx, cntS_snoc, ih (by omega)]
      show n * 2 + 2 = _
      omega
  rcases h with ⟨rfl, rfl⟩ | ⟨g, t, cur, cs, b2, rfl, hg, hc, he, rfl⟩
  · go_enter Try.func82, Try.ntmps82
    go_wp2
    go_loopw [1, 5] (fun kk i wr => kk = .int .i64 k0 ∧ i = .int .i64 0 ∧ wr = w) (fun _ i _ => 0)
    case atStart => exact ⟨rfl, rfl, rfl⟩
    case round =>
      obtain ⟨rfl, rfl, rfl⟩ := hrel
      go_wp2
      go_ret
      exact ⟨ret_int (by simp [cntS]), .inl ⟨rfl, rfl⟩, OnlyB.refl _ _⟩
  · obtain ⟨hcs, rfl⟩ := Els_pairs.1 he
    subst hcs
    have hlen := encP_length xs
    have HC : Hid (cur.toList.take (xs.length * 2) = xs.flatMap encP) := by rw [hlen] at hc; exact hc
    have hz : xs.length * 2 ≤ cur.size := by
      have := congrArg List.length HC.out
      rw [List.length_take, encP_length] at this
      simp at this
      omega
    clear hc he hlen
    go_enter Try.func82, Try.ntmps82
    go_wp2
    go_loopw [1, 5] (fun kk i wr => ∃ (k : Nat) (cur' : Array Value), k ≤ xs.length ∧ i = .int .i64 k ∧ kk = .int .i64 ((k0 + k * 2 : Nat) : Int) ∧ wr.heap[g]? = some (.cells cur' t (0, 0)) ∧ xs.length * 2 ≤ cur'.size ∧
        Hid (cur'.toList.take (xs.length * 2) = (mkS k0 (xs.take k) ++ xs.drop k).flatMap encP) ∧ OnlyB [g] w wr) (fun _ i _ => xs.length - (intOf i).toNat)
    case atStart => exact ⟨0, cur, Nat.zero_le _, rfl, rfl, hg, hz, HC, OnlyB.refl _ _⟩
    case round =>
      obtain ⟨k, cur', hk, rfl, rfl, hblk, hz', hcur, ho⟩ := hrel
      by_cases hlt : k < xs.length
      · obtain ⟨x, hx⟩ := get_some hlt
        have HX := Lib.hid hx
        clear hx
        have HBLK := Lib.hid hblk
        clear hblk
        obtain ⟨u0, hu0⟩ := blk_cell (i := k * 2) HBLK.out (by omega)
        obtain ⟨u1, hu1⟩ := blk_cell (i := k * 2 + 1) HBLK.out (by omega)
        have hf0 := blk_free (i := k * 2) HBLK.out
        have hf1 := blk_free (i := k * 2 + 1) HBLK.out
        go_wp2
        go_roundw
        case rel =>
          refine ⟨k + 1, _, by omega, by go_num, by go_num, blk_set (blk_set HBLK.out _) _, by simpa using hz', Lib.hid ?_, (ho.setCell (List.mem_singleton.2 rfl) _).setCell (List.mem_singleton.2 rfl) _⟩
          have h1 := hcur.out
          rw [drop_cons HX.out] at h1
          rw [take_snoc HX.out, mkS_snoc, hcnt.out k hk, List.append_assoc, List.singleton_append]
          refine Eq.trans ?_ (set_pair (k := k) ((k0 + k * 2 : Nat) : Int) ((k0 + k * 2 + 1 : Nat) : Int) h1 (by rw [mkS_length, List.length_take]; omega))
          push_cast
          rfl
        case measure => simp [intOf]; omega
      · go_wp2
        go_ret
        have h1 := hcur.out
        rw [List.take_of_length_le (l := xs) (by omega), List.drop_eq_nil_of_le (by omega), List.append_nil] at h1
        refine ⟨ret_int ?_, OwnS.of hblk (Els_pairs.2 ⟨h1, rfl⟩), ho⟩
        have := hcnt.out xs.length (Nat.le_refl _)
        rw [List.take_length] at this
        rw [this]
        have : k = xs.length := by omega
        rw [this]

theorem heldMoveS (A : Option Addr) (xs : List (Int × Int)) (c k0 : Nat) (w : World) (h : RdS w w.heap.size A (mkS k0 xs)) (hk0 : k0 ≤ 4611686018427387904) (hn : xs.length ≤ 1048576) :
    Calls Try.prog 83 #[.slice A xs.length c, .int .i64 k0] w fun e w' => e = .returned (.int .i64 ((k0 + cntS xs : Nat) : Int)) ∧ w = w' := by
  have hcnt : Hid (∀ n, n ≤ xs.length → cntS (xs.take n) = n * 2) := by
    intro n hn
    induction n with
    | zero => simp [cntS]
    | succ n ih =>
      obtain ⟨x, hx⟩ := get_some (show n < xs.length by omega)
      rw [take_snoc hx, cntS_snoc, ih (by omega)]
      show n * 2 + 2 = _
      omega
  have hget : Hid (∀ k x, xs[k]? = some x → (mkS k0 xs)[k]? = some (((k0 + k * 2 : Nat) : Int), ((k0 + k * 2 + 1 : Nat) : Int))) := by
    intro k x hx
    have hk := (List.getElem?_eq_some_iff.1 hx).1
    have h1 := mkS_get k0 xs k x hx
    rw [hcnt.out k (by omega)] at h1
    exact h1
  go_enter Try.func83, Try.ntmps83
  go_wp2
  go_loop [1, 5] (fun kk i => ∃ (k : Nat), k ≤ xs.length ∧ i = .int .i64 k ∧ kk = .int .i64 ((k0 + k * 2 : Nat) : Int)) (fun _ i => xs.length - (intOf i).toNat)
  case atStart => exact ⟨0, Nat.zero_le _, rfl, rfl⟩
  case round =>
    obtain ⟨k, hk, rfl, rfl⟩ := hrel
    by_cases hlt : k < xs.length
    · obtain ⟨x, hx⟩ := get_some hlt
      obtain ⟨b, o, rfl, hbb, c1, c2⟩ := h.pair (hget.out k x hx)
      clear hx
      go_wp2
      go_round
      case rel => exact ⟨k + 1, by omega, by go_num, by go_num⟩
      case measure => simp [intOf]; omega
    · go_wp2
      go_ret
      refine ⟨ret_int ?_, rfl⟩
      have := hcnt.out xs.length (Nat.le_refl _)
      rw [List.take_length] at this
      rw [this]
      have : k = xs.length := by omega
      rw [this]
      push_cast
      rfl

theorem szMoveS (A : Option Addr) (n c : Nat) (left : Int) (w : World) (hn : (n : Int) ≤ 9223372036854775807) (h1 : 0 ≤ left) (h2 : left ≤ 1048576) :
    Calls Try.prog 76 #[.slice A n c, .int .i64 left] w (RetLeft left n w) := by
  go_enter Try.func76, Try.ntmps76
  go_wp2
  all_goals go_ret
  · exact ⟨_, rfl, .inl rfl, Below.refl _ _⟩
  · exact ⟨_, rfl, .inr ⟨by omega, by omega⟩, Below.refl _ _⟩

end Go.Proofs.Ytpknkaidmefenaa
