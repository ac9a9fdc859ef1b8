/-
  Contracts of the laws' own helpers for tables (their sizes, copies, comparisons, marks). Conditions: those in each statement.
-/
import Derived.Test.YtahcholnfehibaaMem
import Derived.Test.YtahcholnfehibaaRows
import Derived.ProofKit
import Derived.StillTailTactics
import Derived.Deep.RegionWith
set_option linter.unusedVariables false
set_option linter.unusedSimpArgs false
set_option maxRecDepth 100000
namespace Go.Proofs.Ytahcholnfehibaa
open Go.RowKit

theorem infoExit : (Try.prog.info? 45).map (fun i => (i.zero, i.size, i.bytes)) = some (some (.agg #[.int .i64 0, .int .i64 0]), 2, 16) := by kernel_rfl
/-- The model's == at the pairs' type. -/
theorem eqGuardExit : Try.prog.eqGuardType Try.prog.depth 45 = false := by kernel_rfl
theorem equalExit (x y : Int × Int) (W : World) : (Op.equalIn 10000 45 (.agg #[.int .i64 x.1, .int .i64 x.2]) (.agg #[.int .i64 y.1, .int .i64 y.2])).run Try.prog W = .ok (decide (x = y)) W := by
  have hS : Try.prog.underlying 45 = some (.struct (Try.prog.fieldsOf 45)) := by kernel_rfl
  have hp : Try.prog.stoodInHeld 45 = false := by kernel_rfl
  rw [show (10000 : Nat) = 9999 + 1 from rfl, run_equalIn_agg W 9999 _ _ _ hS hp]
  obtain ⟨a, b⟩ := x
  obtain ⟨c, d⟩ := y
  simp [Program.fieldsOf, Try.underlying45, Try.underlying2, Op.eqFields, part, run_equalIn_int, go_sem]
  by_cases h1 : a = c <;> by_cases h2 : b = d <;> simp [h1, h2]
theorem toExit (x : Int × Int) (w : World) :
    Calls Try.prog 35 #[.agg #[.int .i64 x.1, .int .i64 x.2]] w fun e w' => e = .returned (.agg #[.int .i64 x.1, .int .i64 x.2]) ∧ Below w.heap.size w w' := by
  obtain ⟨a, b⟩ := x
  go_enter Try.func35, Try.ntmps35
  go_wp2
  exact bodyPost_ret (v := .agg #[.int .i64 a, .int .i64 b]) (by simp [results, Try.results35, go_sem]) rfl ⟨rfl, (((Below.refl _ _).alloc (Nat.le_refl _) _).alloc (by simp) _).alloc (by simp; omega) _⟩

theorem toExitS (A : Option Addr) (xs : List (Int × Int)) (c : Nat) (w : World) (h1 : RdS w w.heap.size A xs) (hn : xs.length ≤ 1048576) :
    Calls Try.prog 20 #[.slice A xs.length c] w fun e w' => e = .returned (.slice (some ⟨w.heap.size, 0, none⟩) xs.length xs.length) ∧ OwnS w' (some ⟨w.heap.size, 0, none⟩) xs [w.heap.size] ∧ Below w.heap.size w w' ∧ w.heap.size < w'.heap.size := by
  have hmk := make_full (P := Try.prog) 28 45 _ _ _ _ Try.underlying28 infoExit rfl xs.length (by omega) (by omega)
  go_enter Try.func20, Try.ntmps20
  go_wp2
  go_loopw [4] (fun i wr => ∃ (k : Nat) (cur : Array Value), k ≤ xs.length ∧ i = .int .i64 k ∧ wr.heap[w.heap.size]? = some (.cells cur 45 (0, 0)) ∧ Hid (cur.size = xs.length * 2 ∧ Els wr (xs.take k) (cur.toList.take (k * 2)) []) ∧ Below w.heap.size w wr)
    (fun i _ => xs.length - (intOf i).toNat)
  case atStart => exact ⟨0, _, Nat.zero_le _, rfl, heap_alloc_new w _, Lib.hid ⟨size_madeCells _ _, by simp [Els]⟩, (Below.refl _ _).alloc (Nat.le_refl _) _⟩
  case round =>
    obtain ⟨k, cur, hk, rfl, hblk, hcur, hb⟩ := hrel
    by_cases hlt : k < xs.length
    · obtain ⟨x, hx⟩ := get_some hlt
      obtain ⟨b, o, rfl, hbb, c1, c2⟩ := (h1.below hb (Nat.le_refl _)).pair hx
      have HX := Lib.hid hx
      clear hx
      have hg : w.heap.size < wr.heap.size := (Array.getElem?_eq_some_iff.1 hblk).1
      have HBLK := Lib.hid hblk
      clear hblk
      go_wp2_with (go_at_call 35; refine (toExit x _).mono ?_; rintro e w1 ⟨rfl, hb1⟩; have hblk1 := Lib.hid ((hb1.block _ hg).trans HBLK.out); obtain ⟨u0, hu0⟩ := blk_cell (i := k * 2) hblk1.out (by have := hcur.out.1; omega); obtain ⟨u1, hu1⟩ := blk_cell (i := k * 2 + 1) hblk1.out (by have := hcur.out.1; omega); have hf0 := blk_free (i := k * 2) hblk1.out; have hf1 := blk_free (i := k * 2 + 1) hblk1.out)
      go_roundw
      case rel =>
        have hz := hcur.out.1
        refine ⟨k + 1, _, by omega, by go_num, blk_set (blk_set hblk1.out _) _, Lib.hid ⟨by simpa using hz, ?_⟩, ((below_cat hb hb1 hb.size).setCell (Nat.le_refl _) _).setCell (Nat.le_refl _) _⟩
        rw [fill2 _ _ (by omega), take_snoc HX.out]
        exact (hcur.out.2.keep (by simp)).snoc (b := []) ⟨rfl, rfl⟩
      case measure => simp [intOf]; omega
    · go_wp2
      go_ret
      obtain ⟨hz, he⟩ := hcur.out
      rw [List.take_of_length_le (by omega)] at he
      exact ⟨rfl, OwnS.of hblk he, hb, (Array.getElem?_eq_some_iff.1 hblk).1⟩

theorem eqExit (x : Int × Int) (w : World) :
    Calls Try.prog 36 #[.agg #[.int .i64 x.1, .int .i64 x.2], .agg #[.int .i64 x.1, .int .i64 x.2]] w fun e w' => e = .returned (.bool true) ∧ Below w.heap.size w w' := by
  obtain ⟨a, b⟩ := x
  go_enter Try.func36, Try.ntmps36
  go_wp2
  go_ret
  exact ⟨rfl, ((Below.refl _ _).alloc (Nat.le_refl _) _).alloc (by simp) _⟩

theorem eqExitS (A A' : Option Addr) (xs : List (Int × Int)) (c c' : Nat) (w : World) (h1 : RdS w w.heap.size A xs) (h2 : RdS w w.heap.size A' xs) (hn : xs.length ≤ 140737488355328) :
    Calls Try.prog 22 #[.slice A xs.length c, .slice A' xs.length c'] w fun e w' => e = .returned (.bool true) ∧ Below w.heap.size w w' := by
  go_enter Try.func22, Try.ntmps22
  go_wp2
  go_loopw [5] (fun i wr => ∃ k : Nat, k ≤ xs.length ∧ i = .int .i64 k ∧ Below w.heap.size w wr) (fun i _ => xs.length - (intOf i).toNat)
  case atStart => exact ⟨0, Nat.zero_le _, rfl, Below.refl _ _⟩
  case round =>
    obtain ⟨k, hk, rfl, hb⟩ := hrel
    by_cases hlt : k < xs.length
    · obtain ⟨x, hx⟩ := get_some hlt
      obtain ⟨b, o, rfl, hbb, c1, c2⟩ := (h1.below hb (Nat.le_refl _)).pair hx
      obtain ⟨b', o', rfl, hbb', c3, c4⟩ := (h2.below hb (Nat.le_refl _)).pair hx
      have i1 : (0 : Int) ≤ (k : Int) := by omega
      have i2 : (k : Int) < (xs.length : Int) := by omega
      clear hx
      go_wp2
      go_still_tail 8, (by kernel_rfl)
      go_wp2_with (go_at_call 36; refine (eqExit x _).mono ?_; rintro e w1 ⟨rfl, hb1⟩)
      go_roundw
      case rel => exact ⟨k + 1, by omega, by go_num, below_cat hb.drew hb1 hb.size⟩
      case measure => simp [intOf]; omega
    · go_wp2
      go_ret
      exact ⟨rfl, hb⟩

/-- What the marking of a row of pairs does. -/
theorem markExitS (A : Option Addr) (xs : List (Int × Int)) (c k0 : Nat) (bs : List Nat) (w : World) (h : OwnS w A xs bs) (hk0 : k0 ≤ 4611686018427387904) (hn : xs.length ≤ 1048576) :
    Calls Try.prog 27 #[.slice A xs.length c, .int .i64 k0] w fun e w' => e = .returned (.int .i64 ((k0 + cntS xs : Nat) : Int)) ∧ OwnS w' A (mkS k0 xs) bs ∧ OnlyB bs w w' := by
  have hcnt : Hid (∀ n, n ≤ xs.length → cntS (xs.take n) = n * 2) := by
    intro n hn
    induction n with
    | zero => simp [cntS]
    | succ n ih =>
      obtain ⟨x, hx⟩ := get_some (show n < xs.length by omega)
      rw [take_snoc hx, cntS_snoc, ih (by omega)]
      show n * 2 + 2 = _
      omega
  rcases h with ⟨rfl, rfl⟩ | ⟨g, t, cur, cs, b2, rfl, hg, hc, he, rfl⟩
  · go_enter Try.func27, Try.ntmps27
    go_wp2
    go_loopw [1, 5] (fun kk i wr => kk = .int .i64 k0 ∧ i = .int .i64 0 ∧ wr = w) (fun _ i _ => 0)
    case atStart => exact ⟨rfl, rfl, rfl⟩
    case round =>
      obtain ⟨rfl, rfl, rfl⟩ := hrel
      go_wp2
      go_ret
      exact ⟨ret_int (by simp [cntS]), .inl ⟨rfl, rfl⟩, OnlyB.refl _ _⟩
  · obtain ⟨hcs, rfl⟩ := Els_pairs.1 he
    subst hcs
    have hlen := encP_length xs
    have HC : Hid (cur.toList.take (xs.length * 2) = xs.flatMap encP) := by rw [hlen] at hc; exact hc
    have hz : xs.length * 2 ≤ cur.size := by
      have := congrArg List.length HC.out
      rw [List.length_take, encP_length] at this
      simp at this
      omega
    clear hc he hlen
    go_enter Try.func27, Try.ntmps27
    go_wp2
    go_loopw [1, 5] (fun kk i wr => ∃ (k : Nat) (cur' : Array Value), k ≤ xs.length ∧ i = .int .i64 k ∧ kk = .int .i64 ((k0 + k * 2 : Nat) : Int) ∧ wr.heap[g]? = some (.cells cur' t (0, 0)) ∧ xs.length * 2 ≤ cur'.size ∧
        Hid (cur'.toList.take (xs.length * 2) = (mkS k0 (xs.take k) ++ xs.drop k).flatMap encP) ∧ OnlyB [g] w wr) (fun _ i _ => xs.length - (intOf i).toNat)
    case atStart => exact ⟨0, cur, Nat.zero_le _, rfl, rfl, hg, hz, HC, OnlyB.refl _ _⟩
    case round =>
      obtain ⟨k, cur', hk, rfl, rfl, hblk, hz', hcur, ho⟩ := hrel
      by_cases hlt : k < xs.length
      · obtain ⟨x, hx⟩ := get_some hlt
        have HX := Lib.hid hx
        clear hx
        have HBLK := Lib.hid hblk
        clear hblk
        obtain ⟨u0, hu0⟩ := blk_cell (i := k * 2) HBLK.out (by omega)
        obtain ⟨u1, hu1⟩ := blk_cell (i := k * 2 + 1) HBLK.out (by omega)
        have hf0 := blk_free (i := k * 2) HBLK.out
        have hf1 := blk_free (i := k * 2 + 1) HBLK.out
        go_wp2
        go_roundw
        case rel =>
          refine ⟨k + 1, _, by omega, by go_num, by go_num, blk_set (blk_set HBLK.out _) _, by simpa using hz', Lib.hid ?_, (ho.setCell (List.mem_singleton.2 rfl) _).setCell (List.mem_singleton.2 rfl) _⟩
          have h1 := hcur.out
          rw [drop_cons HX.out] at h1
          rw [take_snoc HX.out, mkS_snoc, hcnt.out k hk, List.append_assoc, List.singleton_append]
          refine Eq.trans ?_ (set_pair (k := k) ((k0 + k * 2 : Nat) : Int) ((k0 + k * 2 + 1 : Nat) : Int) h1 (by rw [mkS_length, List.length_take]; omega))
          push_cast
          rfl
        case measure => simp [intOf]; omega
      · go_wp2
        go_ret
        have h1 := hcur.out
        rw [List.take_of_length_le (l := xs) (by omega), List.drop_eq_nil_of_le (by omega), List.append_nil] at h1
        refine ⟨ret_int ?_, OwnS.of hblk (Els_pairs.2 ⟨h1, rfl⟩), ho⟩
        have := hcnt.out xs.length (Nat.le_refl _)
        rw [List.take_length] at this
        rw [this]
        have : k = xs.length := by omega
        rw [this]

theorem heldExitS (A : Option Addr) (xs : List (Int × Int)) (c k0 : Nat) (w : World) (h : RdS w w.heap.size A (mkS k0 xs)) (hk0 : k0 ≤ 4611686018427387904) (hn : xs.length ≤ 1048576) :
    Calls Try.prog 28 #[.slice A xs.length c, .int .i64 k0] w fun e w' => e = .returned (.int .i64 ((k0 + cntS xs : Nat) : Int)) ∧ w = w' := by
  have hcnt : Hid (∀ n, n ≤ xs.length → cntS (xs.take n) = n * 2) := by
    intro n hn
    induction n with
    | zero => simp [cntS]
    | succ n ih =>
      obtain ⟨x, hx⟩ := get_some (show n < xs.length by omega)
      rw [take_snoc hx, cntS_snoc, ih (by omega)]
      show n * 2 + 2 = _
      omega
  have hget : Hid (∀ k x, xs[k]? = some x → (mkS k0 xs)[k]? = some (((k0 + k * 2 : Nat) : Int), ((k0 + k * 2 + 1 : Nat) : Int))) := by
    intro k x hx
    have hk := (List.getElem?_eq_some_iff.1 hx).1
    have h1 := mkS_get k0 xs k x hx
    rw [hcnt.out k (by omega)] at h1
    exact h1
  go_enter Try.func28, Try.ntmps28
  go_wp2
  go_loop [1, 5] (fun kk i => ∃ (k : Nat), k ≤ xs.length ∧ i = .int .i64 k ∧ kk = .int .i64 ((k0 + k * 2 : Nat) : Int)) (fun _ i => xs.length - (intOf i).toNat)
  case atStart => exact ⟨0, Nat.zero_le _, rfl, rfl⟩
  case round =>
    obtain ⟨k, hk, rfl, rfl⟩ := hrel
    by_cases hlt : k < xs.length
    · obtain ⟨x, hx⟩ := get_some hlt
      obtain ⟨b, o, rfl, hbb, c1, c2⟩ := h.pair (hget.out k x hx)
      clear hx
      go_wp2
      go_round
      case rel => exact ⟨k + 1, by omega, by go_num, by go_num⟩
      case measure => simp [intOf]; omega
    · go_wp2
      go_ret
      refine ⟨ret_int ?_, rfl⟩
      have := hcnt.out xs.length (Nat.le_refl _)
      rw [List.take_length] at this
      rw [this]
      have : k = xs.length := by omega
      rw [this]
      push_cast
      rfl

/-- A table: the exits of those that come from the left, and from the right. -/
structure Tb where
  l : List (Int × Int)
  r : List (Int × Int)
def RdTb (w : World) (B : Nat) (v : Value) (T : Tb) : Prop := ∃ A c A' c', v = .agg #[.slice A T.l.length c, .slice A' T.r.length c'] ∧ RdS w B A T.l ∧ RdS w B A' T.r
def OwnTb (w : World) (v : Value) (T : Tb) (bs : List Nat) : Prop := ∃ A c A' c' b1 b2, v = .agg #[.slice A T.l.length c, .slice A' T.r.length c'] ∧ OwnS w A T.l b1 ∧ OwnS w A' T.r b2 ∧ bs = b1 ++ b2
def Tb.cnt (T : Tb) : Nat := cntS T.l + cntS T.r
def Tb.mark (k : Nat) (T : Tb) : Tb := ⟨mkS k T.l, mkS (k + cntS T.l) T.r⟩
def Tb.tot (T : Tb) : Nat := T.l.length + T.r.length
/-- It returns the table T, in new memory. -/
def RetTb (T : Tb) (w : World) (e : Ending) (w' : World) : Prop := ∃ v bs, e = .returned v ∧ OwnTb w' v T bs ∧ Fresh w.heap.size w' bs ∧ Below w.heap.size w w'

theorem toTable (A A' : Option Addr) (T : Tb) (c c' : Nat) (w : World) (h1 : RdS w w.heap.size A T.l) (h2 : RdS w w.heap.size A' T.r) (hn : T.tot ≤ 1048576) :
    Calls Try.prog 9 #[.agg #[.slice A T.l.length c, .slice A' T.r.length c']] w (RetTb T w) := by
  have hn1 : T.l.length ≤ 1048576 := by unfold Tb.tot at hn; omega
  have hn2 : T.r.length ≤ 1048576 := by unfold Tb.tot at hn; omega
  go_enter Try.func9, Try.ntmps9
  go_wp2_with (first
    | (go_at_call_of 20 A; refine (toExitS A T.l c _ (h1.up (by repeat (first | exact Below.refl _ _ | exact Since.out (by assumption) | refine Below.alloc ?_ (by first | omega | (simp only [sz_alloc, sz_set, sz_drew, sz_drewN]; omega) | (simp only [sz_alloc, sz_set, sz_drew, sz_drewN] at *; omega)) _ | refine Below.setCell ?_ (by first | omega | (simp only [sz_alloc, sz_set, sz_drew, sz_drewN]; omega) | (simp only [sz_alloc, sz_set, sz_drew, sz_drewN] at *; omega)) _ | refine Below.drew ?_ | refine below_drewN_ ?_ _))) hn1).mono ?_; rintro e w1 ⟨rfl, ho1, hb1, hg1⟩; have HBw1 : Since w w1 := ⟨below_cat (by repeat (first | exact Below.refl _ _ | exact Since.out (by assumption) | refine Below.alloc ?_ (by first | omega | (simp only [sz_alloc, sz_set, sz_drew, sz_drewN]; omega) | (simp only [sz_alloc, sz_set, sz_drew, sz_drewN] at *; omega)) _ | refine Below.setCell ?_ (by first | omega | (simp only [sz_alloc, sz_set, sz_drew, sz_drewN]; omega) | (simp only [sz_alloc, sz_set, sz_drew, sz_drewN] at *; omega)) _ | refine Below.drew ?_ | refine below_drewN_ ?_ _)) hb1 (by first | omega | (simp only [sz_alloc, sz_set, sz_drew, sz_drewN]; omega) | (simp only [sz_alloc, sz_set, sz_drew, sz_drewN] at *; omega))⟩; have hzw1 := hb1.size; (try simp only [sz_alloc, sz_set, sz_drew, sz_drewN] at hzw1); have hcw1k0 := fun o => hb1.cell (p := ⟨w.heap.size, o, none⟩) (by first | omega | (simp only [sz_alloc, sz_set, sz_drew, sz_drewN]; omega) | (simp only [sz_alloc, sz_set, sz_drew, sz_drewN] at *; omega)); have hfw1k0 := fun o => hb1.frozen (p := ⟨w.heap.size, o, none⟩) (by first | omega | (simp only [sz_alloc, sz_set, sz_drew, sz_drewN]; omega) | (simp only [sz_alloc, sz_set, sz_drew, sz_drewN] at *; omega)); have hlw1k0 : w.heap.size < w1.heap.size := (by first | omega | (simp only [sz_alloc, sz_set, sz_drew, sz_drewN]; omega) | (simp only [sz_alloc, sz_set, sz_drew, sz_drewN] at *; omega)); have hcw1k1 := fun o => hb1.cell (p := ⟨w.heap.size + 1, o, none⟩) (by first | omega | (simp only [sz_alloc, sz_set, sz_drew, sz_drewN]; omega) | (simp only [sz_alloc, sz_set, sz_drew, sz_drewN] at *; omega)); have hfw1k1 := fun o => hb1.frozen (p := ⟨w.heap.size + 1, o, none⟩) (by first | omega | (simp only [sz_alloc, sz_set, sz_drew, sz_drewN]; omega) | (simp only [sz_alloc, sz_set, sz_drew, sz_drewN] at *; omega)); have hlw1k1 : w.heap.size + 1 < w1.heap.size := (by first | omega | (simp only [sz_alloc, sz_set, sz_drew, sz_drewN]; omega) | (simp only [sz_alloc, sz_set, sz_drew, sz_drewN] at *; omega)); have hcw1k2 := fun o => hb1.cell (p := ⟨w.heap.size + 1 + 1, o, none⟩) (by first | omega | (simp only [sz_alloc, sz_set, sz_drew, sz_drewN]; omega) | (simp only [sz_alloc, sz_set, sz_drew, sz_drewN] at *; omega)); have hfw1k2 := fun o => hb1.frozen (p := ⟨w.heap.size + 1 + 1, o, none⟩) (by first | omega | (simp only [sz_alloc, sz_set, sz_drew, sz_drewN]; omega) | (simp only [sz_alloc, sz_set, sz_drew, sz_drewN] at *; omega)); have hlw1k2 : w.heap.size + 1 + 1 < w1.heap.size := (by first | omega | (simp only [sz_alloc, sz_set, sz_drew, sz_drewN]; omega) | (simp only [sz_alloc, sz_set, sz_drew, sz_drewN] at *; omega)))
    | (go_at_call_of 20 A'; refine (toExitS A' T.r c' _ (h2.up (by repeat (first | exact Below.refl _ _ | exact Since.out (by assumption) | refine Below.alloc ?_ (by first | omega | (simp only [sz_alloc, sz_set, sz_drew, sz_drewN]; omega) | (simp only [sz_alloc, sz_set, sz_drew, sz_drewN] at *; omega)) _ | refine Below.setCell ?_ (by first | omega | (simp only [sz_alloc, sz_set, sz_drew, sz_drewN]; omega) | (simp only [sz_alloc, sz_set, sz_drew, sz_drewN] at *; omega)) _ | refine Below.drew ?_ | refine below_drewN_ ?_ _))) hn2).mono ?_; rintro e w2 ⟨rfl, ho2, hb2, hg2⟩; have HBw2 : Since w w2 := ⟨below_cat (by repeat (first | exact Below.refl _ _ | exact Since.out (by assumption) | refine Below.alloc ?_ (by first | omega | (simp only [sz_alloc, sz_set, sz_drew, sz_drewN]; omega) | (simp only [sz_alloc, sz_set, sz_drew, sz_drewN] at *; omega)) _ | refine Below.setCell ?_ (by first | omega | (simp only [sz_alloc, sz_set, sz_drew, sz_drewN]; omega) | (simp only [sz_alloc, sz_set, sz_drew, sz_drewN] at *; omega)) _ | refine Below.drew ?_ | refine below_drewN_ ?_ _)) hb2 (by first | omega | (simp only [sz_alloc, sz_set, sz_drew, sz_drewN]; omega) | (simp only [sz_alloc, sz_set, sz_drew, sz_drewN] at *; omega))⟩; have hzw2 := hb2.size; (try simp only [sz_alloc, sz_set, sz_drew, sz_drewN] at hzw2); have hcw2k0 := fun o => hb2.cell (p := ⟨w.heap.size, o, none⟩) (by first | omega | (simp only [sz_alloc, sz_set, sz_drew, sz_drewN]; omega) | (simp only [sz_alloc, sz_set, sz_drew, sz_drewN] at *; omega)); have hfw2k0 := fun o => hb2.frozen (p := ⟨w.heap.size, o, none⟩) (by first | omega | (simp only [sz_alloc, sz_set, sz_drew, sz_drewN]; omega) | (simp only [sz_alloc, sz_set, sz_drew, sz_drewN] at *; omega)); have hlw2k0 : w.heap.size < w2.heap.size := (by first | omega | (simp only [sz_alloc, sz_set, sz_drew, sz_drewN]; omega) | (simp only [sz_alloc, sz_set, sz_drew, sz_drewN] at *; omega)); have hcw2k1 := fun o => hb2.cell (p := ⟨w.heap.size + 1, o, none⟩) (by first | omega | (simp only [sz_alloc, sz_set, sz_drew, sz_drewN]; omega) | (simp only [sz_alloc, sz_set, sz_drew, sz_drewN] at *; omega)); have hfw2k1 := fun o => hb2.frozen (p := ⟨w.heap.size + 1, o, none⟩) (by first | omega | (simp only [sz_alloc, sz_set, sz_drew, sz_drewN]; omega) | (simp only [sz_alloc, sz_set, sz_drew, sz_drewN] at *; omega)); have hlw2k1 : w.heap.size + 1 < w2.heap.size := (by first | omega | (simp only [sz_alloc, sz_set, sz_drew, sz_drewN]; omega) | (simp only [sz_alloc, sz_set, sz_drew, sz_drewN] at *; omega)); have hcw2k2 := fun o => hb2.cell (p := ⟨w.heap.size + 1 + 1, o, none⟩) (by first | omega | (simp only [sz_alloc, sz_set, sz_drew, sz_drewN]; omega) | (simp only [sz_alloc, sz_set, sz_drew, sz_drewN] at *; omega)); have hfw2k2 := fun o => hb2.frozen (p := ⟨w.heap.size + 1 + 1, o, none⟩) (by first | omega | (simp only [sz_alloc, sz_set, sz_drew, sz_drewN]; omega) | (simp only [sz_alloc, sz_set, sz_drew, sz_drewN] at *; omega)); have hlw2k2 : w.heap.size + 1 + 1 < w2.heap.size := (by first | omega | (simp only [sz_alloc, sz_set, sz_drew, sz_drewN]; omega) | (simp only [sz_alloc, sz_set, sz_drew, sz_drewN] at *; omega))))
  simp only [sz_alloc, sz_set, sz_drew, sz_drewN] at ho1 ho2 hg1 hg2
  refine bodyPost_ret (v := .agg #[.slice (some ⟨w.heap.size + 1 + 1 + 1, 0, none⟩) T.l.length T.l.length, .slice (some ⟨w1.heap.size, 0, none⟩) T.r.length T.r.length]) (by simp [results, Try.results9, go_sem, *]) rfl
    ⟨_, _, rfl, ⟨_, _, _, _, _, _, rfl, ho1.only (bs' := [w.heap.size + 1, w.heap.size + 1 + 1]) (by repeat (first | exact OnlyB.refl _ _ | refine OnlyB.setCell ?_ (by simp) _ | refine OnlyB.alloc ?_ _ | refine OnlyB.drew ?_ | refine OnlyB.trans ?_ (OnlyB.of_below (by assumption) _))) (by simp; omega), ho2.only (bs' := [w.heap.size + 1, w.heap.size + 1 + 1]) (by repeat (first | exact OnlyB.refl _ _ | refine OnlyB.setCell ?_ (by simp) _ | refine OnlyB.alloc ?_ _ | refine OnlyB.drew ?_ | refine OnlyB.trans ?_ (OnlyB.of_below (by assumption) _))) (by simp; omega), rfl⟩, ⟨by simp; omega, ?_⟩, (by repeat (first | exact Below.refl _ _ | exact Since.out (by assumption) | refine Below.alloc ?_ (by first | omega | (simp only [sz_alloc, sz_set, sz_drew, sz_drewN]; omega) | (simp only [sz_alloc, sz_set, sz_drew, sz_drewN] at *; omega)) _ | refine Below.setCell ?_ (by first | omega | (simp only [sz_alloc, sz_set, sz_drew, sz_drewN]; omega) | (simp only [sz_alloc, sz_set, sz_drew, sz_drewN] at *; omega)) _ | refine Below.drew ?_ | refine below_drewN_ ?_ _))⟩
  simp only [sz_set, List.cons_append, List.nil_append, List.mem_cons, List.not_mem_nil, or_false]
  rintro g (rfl | rfl) <;> omega

/-- The rest of a budget: -1, or what is left of it. -/
def Left (left : Int) (t : Nat) (r : Int) : Prop := r = -1 ∨ (0 ≤ r ∧ r + t = left)
def RetLeft (left : Int) (t : Nat) (w : World) (e : Ending) (w' : World) : Prop := ∃ r, e = .returned (.int .i64 r) ∧ Left left t r ∧ Below w.heap.size w w'

theorem szExitS (A : Option Addr) (n c : Nat) (left : Int) (w : World) (hn : (n : Int) ≤ 9223372036854775807) (h1 : 0 ≤ left) (h2 : left ≤ 1048576) :
    Calls Try.prog 18 #[.slice A n c, .int .i64 left] w (RetLeft left n w) := by
  go_enter Try.func18, Try.ntmps18
  go_wp2
  all_goals go_ret
  · exact ⟨_, rfl, .inl rfl, Below.refl _ _⟩
  · exact ⟨_, rfl, .inr ⟨by omega, by omega⟩, Below.refl _ _⟩

theorem szTable (A A' : Option Addr) (n n' c c' : Nat) (left : Int) (w : World) (hn : (n : Int) ≤ 9223372036854775807) (hn' : (n' : Int) ≤ 9223372036854775807) (h1 : 0 ≤ left) (h2 : left ≤ 1048576) :
    Calls Try.prog 7 #[.agg #[.slice A n c, .slice A' n' c'], .int .i64 left] w (RetLeft left (n + n') w) := by
  go_enter Try.func7, Try.ntmps7
  go_wp2_with fail
  refine (szExitS A n c left _ hn h1 h2).mono ?_
  rintro e w1 ⟨r, rfl, hr, hb1⟩
  have HBw1 : Since w w1 := ⟨below_cat (by repeat (first | exact Below.refl _ _ | exact Since.out (by assumption) | refine Below.alloc ?_ (by first | omega | (simp only [sz_alloc, sz_set, sz_drew, sz_drewN]; omega) | (simp only [sz_alloc, sz_set, sz_drew, sz_drewN] at *; omega)) _ | refine Below.setCell ?_ (by first | omega | (simp only [sz_alloc, sz_set, sz_drew, sz_drewN]; omega) | (simp only [sz_alloc, sz_set, sz_drew, sz_drewN] at *; omega)) _ | refine Below.drew ?_ | refine below_drewN_ ?_ _)) hb1 (by first | omega | (simp only [sz_alloc, sz_set, sz_drew, sz_drewN]; omega) | (simp only [sz_alloc, sz_set, sz_drew, sz_drewN] at *; omega))⟩; have hzw1 := hb1.size; (try simp only [sz_alloc, sz_set, sz_drew, sz_drewN] at hzw1); have hcw1k0 := fun o => hb1.cell (p := ⟨w.heap.size, o, none⟩) (by first | omega | (simp only [sz_alloc, sz_set, sz_drew, sz_drewN]; omega) | (simp only [sz_alloc, sz_set, sz_drew, sz_drewN] at *; omega)); have hfw1k0 := fun o => hb1.frozen (p := ⟨w.heap.size, o, none⟩) (by first | omega | (simp only [sz_alloc, sz_set, sz_drew, sz_drewN]; omega) | (simp only [sz_alloc, sz_set, sz_drew, sz_drewN] at *; omega)); have hlw1k0 : w.heap.size < w1.heap.size := (by first | omega | (simp only [sz_alloc, sz_set, sz_drew, sz_drewN]; omega) | (simp only [sz_alloc, sz_set, sz_drew, sz_drewN] at *; omega))
  rcases hr with rfl | ⟨hr0, hr1⟩
  · go_wp2
    go_ret
    exact ⟨_, rfl, .inl rfl, HBw1.out⟩
  · have hr2 : r ≤ 1048576 := by omega
    have Hr := Lib.hid hr1
    clear hr1
    go_wp2_with fail
    refine (szExitS A' n' c' r _ hn' hr0 hr2).mono ?_
    rintro e w2 ⟨r', rfl, hr', hb2⟩
    have HBw2 : Since w w2 := ⟨below_cat (by repeat (first | exact Below.refl _ _ | exact Since.out (by assumption) | refine Below.alloc ?_ (by first | omega | (simp only [sz_alloc, sz_set, sz_drew, sz_drewN]; omega) | (simp only [sz_alloc, sz_set, sz_drew, sz_drewN] at *; omega)) _ | refine Below.setCell ?_ (by first | omega | (simp only [sz_alloc, sz_set, sz_drew, sz_drewN]; omega) | (simp only [sz_alloc, sz_set, sz_drew, sz_drewN] at *; omega)) _ | refine Below.drew ?_ | refine below_drewN_ ?_ _)) hb2 (by first | omega | (simp only [sz_alloc, sz_set, sz_drew, sz_drewN]; omega) | (simp only [sz_alloc, sz_set, sz_drew, sz_drewN] at *; omega))⟩; have hzw2 := hb2.size; (try simp only [sz_alloc, sz_set, sz_drew, sz_drewN] at hzw2); have hcw2k0 := fun o => hb2.cell (p := ⟨w.heap.size, o, none⟩) (by first | omega | (simp only [sz_alloc, sz_set, sz_drew, sz_drewN]; omega) | (simp only [sz_alloc, sz_set, sz_drew, sz_drewN] at *; omega)); have hfw2k0 := fun o => hb2.frozen (p := ⟨w.heap.size, o, none⟩) (by first | omega | (simp only [sz_alloc, sz_set, sz_drew, sz_drewN]; omega) | (simp only [sz_alloc, sz_set, sz_drew, sz_drewN] at *; omega)); have hlw2k0 : w.heap.size < w2.heap.size := (by first | omega | (simp only [sz_alloc, sz_set, sz_drew, sz_drewN]; omega) | (simp only [sz_alloc, sz_set, sz_drew, sz_drewN] at *; omega))
    have hr1 := Hr.out
    rcases hr' with rfl | ⟨hr0', hr1'⟩
    · clear hr1
      go_wp2
      go_ret
      exact ⟨_, rfl, .inl rfl, HBw2.out⟩
    · have Hr' := Lib.hid hr1'
      clear hr1 hr1'
      go_wp2
      go_ret
      have := Hr.out
      have := Hr'.out
      exact ⟨_, rfl, .inr ⟨by omega, by push_cast; omega⟩, HBw2.out⟩

theorem eqTable (v v' : Value) (T : Tb) (w : World) (h1 : RdTb w w.heap.size v T) (h2 : RdTb w w.heap.size v' T) (hn : T.tot ≤ 140737488355328) :
    Calls Try.prog 11 #[v, v'] w fun e w' => e = .returned (.bool true) ∧ Below w.heap.size w w' := by
  have hn1 : T.l.length ≤ 140737488355328 := by unfold Tb.tot at hn; omega
  have hn2 : T.r.length ≤ 140737488355328 := by unfold Tb.tot at hn; omega
  obtain ⟨A, c, A', c', rfl, r1, r2⟩ := h1
  obtain ⟨D, d, D', d', rfl, r3, r4⟩ := h2
  go_enter Try.func11, Try.ntmps11
  go_wp2_with fail
  refine (eqExitS A D T.l c d _ (r1.up (by repeat (first | exact Below.refl _ _ | exact Since.out (by assumption) | refine Below.alloc ?_ (by first | omega | (simp only [sz_alloc, sz_set, sz_drew, sz_drewN]; omega) | (simp only [sz_alloc, sz_set, sz_drew, sz_drewN] at *; omega)) _ | refine Below.setCell ?_ (by first | omega | (simp only [sz_alloc, sz_set, sz_drew, sz_drewN]; omega) | (simp only [sz_alloc, sz_set, sz_drew, sz_drewN] at *; omega)) _ | refine Below.drew ?_ | refine below_drewN_ ?_ _))) (r3.up (by repeat (first | exact Below.refl _ _ | exact Since.out (by assumption) | refine Below.alloc ?_ (by first | omega | (simp only [sz_alloc, sz_set, sz_drew, sz_drewN]; omega) | (simp only [sz_alloc, sz_set, sz_drew, sz_drewN] at *; omega)) _ | refine Below.setCell ?_ (by first | omega | (simp only [sz_alloc, sz_set, sz_drew, sz_drewN]; omega) | (simp only [sz_alloc, sz_set, sz_drew, sz_drewN] at *; omega)) _ | refine Below.drew ?_ | refine below_drewN_ ?_ _))) hn1).mono ?_
  rintro e w1 ⟨rfl, hb1⟩
  have HBw1 : Since w w1 := ⟨below_cat (by repeat (first | exact Below.refl _ _ | exact Since.out (by assumption) | refine Below.alloc ?_ (by first | omega | (simp only [sz_alloc, sz_set, sz_drew, sz_drewN]; omega) | (simp only [sz_alloc, sz_set, sz_drew, sz_drewN] at *; omega)) _ | refine Below.setCell ?_ (by first | omega | (simp only [sz_alloc, sz_set, sz_drew, sz_drewN]; omega) | (simp only [sz_alloc, sz_set, sz_drew, sz_drewN] at *; omega)) _ | refine Below.drew ?_ | refine below_drewN_ ?_ _)) hb1 (by first | omega | (simp only [sz_alloc, sz_set, sz_drew, sz_drewN]; omega) | (simp only [sz_alloc, sz_set, sz_drew, sz_drewN] at *; omega))⟩; have hzw1 := hb1.size; (try simp only [sz_alloc, sz_set, sz_drew, sz_drewN] at hzw1); have hcw1k0 := fun o => hb1.cell (p := ⟨w.heap.size, o, none⟩) (by first | omega | (simp only [sz_alloc, sz_set, sz_drew, sz_drewN]; omega) | (simp only [sz_alloc, sz_set, sz_drew, sz_drewN] at *; omega)); have hfw1k0 := fun o => hb1.frozen (p := ⟨w.heap.size, o, none⟩) (by first | omega | (simp only [sz_alloc, sz_set, sz_drew, sz_drewN]; omega) | (simp only [sz_alloc, sz_set, sz_drew, sz_drewN] at *; omega)); have hlw1k0 : w.heap.size < w1.heap.size := (by first | omega | (simp only [sz_alloc, sz_set, sz_drew, sz_drewN]; omega) | (simp only [sz_alloc, sz_set, sz_drew, sz_drewN] at *; omega)); have hcw1k1 := fun o => hb1.cell (p := ⟨w.heap.size + 1, o, none⟩) (by first | omega | (simp only [sz_alloc, sz_set, sz_drew, sz_drewN]; omega) | (simp only [sz_alloc, sz_set, sz_drew, sz_drewN] at *; omega)); have hfw1k1 := fun o => hb1.frozen (p := ⟨w.heap.size + 1, o, none⟩) (by first | omega | (simp only [sz_alloc, sz_set, sz_drew, sz_drewN]; omega) | (simp only [sz_alloc, sz_set, sz_drew, sz_drewN] at *; omega)); have hlw1k1 : w.heap.size + 1 < w1.heap.size := (by first | omega | (simp only [sz_alloc, sz_set, sz_drew, sz_drewN]; omega) | (simp only [sz_alloc, sz_set, sz_drew, sz_drewN] at *; omega))
  go_wp2_with fail
  refine (eqExitS A' D' T.r c' d' _ (r2.up (by repeat (first | exact Below.refl _ _ | exact Since.out (by assumption) | refine Below.alloc ?_ (by first | omega | (simp only [sz_alloc, sz_set, sz_drew, sz_drewN]; omega) | (simp only [sz_alloc, sz_set, sz_drew, sz_drewN] at *; omega)) _ | refine Below.setCell ?_ (by first | omega | (simp only [sz_alloc, sz_set, sz_drew, sz_drewN]; omega) | (simp only [sz_alloc, sz_set, sz_drew, sz_drewN] at *; omega)) _ | refine Below.drew ?_ | refine below_drewN_ ?_ _))) (r4.up (by repeat (first | exact Below.refl _ _ | exact Since.out (by assumption) | refine Below.alloc ?_ (by first | omega | (simp only [sz_alloc, sz_set, sz_drew, sz_drewN]; omega) | (simp only [sz_alloc, sz_set, sz_drew, sz_drewN] at *; omega)) _ | refine Below.setCell ?_ (by first | omega | (simp only [sz_alloc, sz_set, sz_drew, sz_drewN]; omega) | (simp only [sz_alloc, sz_set, sz_drew, sz_drewN] at *; omega)) _ | refine Below.drew ?_ | refine below_drewN_ ?_ _))) hn2).mono ?_
  rintro e w2 ⟨rfl, hb2⟩
  have HBw2 : Since w w2 := ⟨below_cat (by repeat (first | exact Below.refl _ _ | exact Since.out (by assumption) | refine Below.alloc ?_ (by first | omega | (simp only [sz_alloc, sz_set, sz_drew, sz_drewN]; omega) | (simp only [sz_alloc, sz_set, sz_drew, sz_drewN] at *; omega)) _ | refine Below.setCell ?_ (by first | omega | (simp only [sz_alloc, sz_set, sz_drew, sz_drewN]; omega) | (simp only [sz_alloc, sz_set, sz_drew, sz_drewN] at *; omega)) _ | refine Below.drew ?_ | refine below_drewN_ ?_ _)) hb2 (by first | omega | (simp only [sz_alloc, sz_set, sz_drew, sz_drewN]; omega) | (simp only [sz_alloc, sz_set, sz_drew, sz_drewN] at *; omega))⟩; have hzw2 := hb2.size; (try simp only [sz_alloc, sz_set, sz_drew, sz_drewN] at hzw2); have hcw2k0 := fun o => hb2.cell (p := ⟨w.heap.size, o, none⟩) (by first | omega | (simp only [sz_alloc, sz_set, sz_drew, sz_drewN]; omega) | (simp only [sz_alloc, sz_set, sz_drew, sz_drewN] at *; omega)); have hfw2k0 := fun o => hb2.frozen (p := ⟨w.heap.size, o, none⟩) (by first | omega | (simp only [sz_alloc, sz_set, sz_drew, sz_drewN]; omega) | (simp only [sz_alloc, sz_set, sz_drew, sz_drewN] at *; omega)); have hlw2k0 : w.heap.size < w2.heap.size := (by first | omega | (simp only [sz_alloc, sz_set, sz_drew, sz_drewN]; omega) | (simp only [sz_alloc, sz_set, sz_drew, sz_drewN] at *; omega)); have hcw2k1 := fun o => hb2.cell (p := ⟨w.heap.size + 1, o, none⟩) (by first | omega | (simp only [sz_alloc, sz_set, sz_drew, sz_drewN]; omega) | (simp only [sz_alloc, sz_set, sz_drew, sz_drewN] at *; omega)); have hfw2k1 := fun o => hb2.frozen (p := ⟨w.heap.size + 1, o, none⟩) (by first | omega | (simp only [sz_alloc, sz_set, sz_drew, sz_drewN]; omega) | (simp only [sz_alloc, sz_set, sz_drew, sz_drewN] at *; omega)); have hlw2k1 : w.heap.size + 1 < w2.heap.size := (by first | omega | (simp only [sz_alloc, sz_set, sz_drew, sz_drewN]; omega) | (simp only [sz_alloc, sz_set, sz_drew, sz_drewN] at *; omega))
  go_wp2
  go_ret
  exact ⟨rfl, HBw2.out⟩

theorem OwnTb.rd {w : World} {v : Value} {T : Tb} {bs : List Nat} {B : Nat} (h : OwnTb w v T bs) (hB : ∀ g ∈ bs, g < B) : RdTb w B v T := by
  obtain ⟨A, c, A', c', b1, b2, e, o1, o2, rfl⟩ := h
  exact ⟨A, c, A', c', e, o1.rd fun g hg => hB g (List.mem_append_left _ hg), o2.rd fun g hg => hB g (List.mem_append_right _ hg)⟩
theorem OwnTb.keep {w w' : World} {v : Value} {T : Tb} {bs : List Nat} (h : OwnTb w v T bs) (hk : ∀ g ∈ bs, w'.heap[g]? = w.heap[g]?) : OwnTb w' v T bs := by
  obtain ⟨A, c, A', c', b1, b2, e, o1, o2, rfl⟩ := h
  exact ⟨A, c, A', c', b1, b2, e, o1.keep fun g hg => hk g (List.mem_append_left _ hg), o2.keep fun g hg => hk g (List.mem_append_right _ hg), rfl⟩
theorem RdTb.up {w w' : World} {v : Value} {T : Tb} (h : RdTb w w.heap.size v T) (hb : Below w.heap.size w w') : RdTb w' w'.heap.size v T := by
  obtain ⟨A, c, A', c', e, r1, r2⟩ := h
  exact ⟨A, c, A', c', e, r1.up hb, r2.up hb⟩

/-- It returns k, and the table is marked; only its own blocks have been written. -/
theorem markTable (v : Value) (T : Tb) (k0 : Nat) (bs : List Nat) (w : World) (h : OwnTb w v T bs) (hd : bs.Nodup) (hlt : ∀ g ∈ bs, g < w.heap.size) (hk0 : k0 ≤ 2305843009213693952) (hn : T.tot ≤ 1048576) :
    Calls Try.prog 14 #[v, .int .i64 k0] w fun e w' => e = .returned (.int .i64 ((k0 + T.cnt : Nat) : Int)) ∧ OwnTb w' v (T.mark k0) bs ∧ OnlyB bs w w' := by
  have hn1 : T.l.length ≤ 1048576 := by unfold Tb.tot at hn; omega
  have hn2 : T.r.length ≤ 1048576 := by unfold Tb.tot at hn; omega
  obtain ⟨A, c, A', c', b1, b2, rfl, o1, o2, rfl⟩ := h
  rw [List.nodup_append] at hd
  obtain ⟨_, _, hdis⟩ := hd
  have hc1 : cntS T.l ≤ 2 * T.l.length := cntS_pairs T.l
  go_enter Try.func14, Try.ntmps14
  go_wp2_with fail
  refine (markExitS A T.l c k0 b1 _ (o1.below (by repeat (first | exact Below.refl _ _ | exact Since.out (by assumption) | refine Below.alloc ?_ (by first | omega | (simp only [sz_alloc, sz_set, sz_drew, sz_drewN]; omega) | (simp only [sz_alloc, sz_set, sz_drew, sz_drewN] at *; omega)) _ | refine Below.setCell ?_ (by first | omega | (simp only [sz_alloc, sz_set, sz_drew, sz_drewN]; omega) | (simp only [sz_alloc, sz_set, sz_drew, sz_drewN] at *; omega)) _ | refine Below.drew ?_ | refine below_drewN_ ?_ _)) fun g hg => hlt g (List.mem_append_left _ hg)) (by omega) hn1).mono ?_
  rintro e w1 ⟨rfl, p1, q1⟩
  have hzw1 := q1.size; (try simp only [sz_alloc, sz_set, sz_drew, sz_drewN] at hzw1); have hcw1k0 := fun o => World.cell?_of_block (a := ⟨w.heap.size, o, none⟩) (q1.block (w.heap.size) (by first | omega | (simp only [sz_alloc, sz_set, sz_drew, sz_drewN]; omega) | (simp only [sz_alloc, sz_set, sz_drew, sz_drewN] at *; omega)) (fun hm => by have := hlt (w.heap.size) (by simp [hm]); omega)); have hfw1k0 := fun o => World.frozen?_of_block (a := ⟨w.heap.size, o, none⟩) (q1.block (w.heap.size) (by first | omega | (simp only [sz_alloc, sz_set, sz_drew, sz_drewN]; omega) | (simp only [sz_alloc, sz_set, sz_drew, sz_drewN] at *; omega)) (fun hm => by have := hlt (w.heap.size) (by simp [hm]); omega))
  go_wp2_with fail
  have o2' : OwnS w1 A' T.r b2 := (o2.below (w' := w.alloc (Obj.cells #[Value.slice A T.l.length c, Value.slice A' T.r.length c'] 30)) (by repeat (first | exact Below.refl _ _ | exact Since.out (by assumption) | refine Below.alloc ?_ (by first | omega | (simp only [sz_alloc, sz_set, sz_drew, sz_drewN]; omega) | (simp only [sz_alloc, sz_set, sz_drew, sz_drewN] at *; omega)) _ | refine Below.setCell ?_ (by first | omega | (simp only [sz_alloc, sz_set, sz_drew, sz_drewN]; omega) | (simp only [sz_alloc, sz_set, sz_drew, sz_drewN] at *; omega)) _ | refine Below.drew ?_ | refine below_drewN_ ?_ _)) fun g hg => hlt g (List.mem_append_right _ hg)).only q1 (fun g hg => ⟨fun hm => hdis g hm g hg rfl, by have := hlt g (List.mem_append_right _ hg); simp; omega⟩)
  refine (markExitS A' T.r c' (k0 + cntS T.l) b2 _ o2' (by omega) hn2).mono ?_
  rintro e w2 ⟨rfl, p2, q2⟩
  have hzw2 := q2.size; (try simp only [sz_alloc, sz_set, sz_drew, sz_drewN] at hzw2); have hcw2k0 := fun o => World.cell?_of_block (a := ⟨w.heap.size, o, none⟩) (q2.block (w.heap.size) (by first | omega | (simp only [sz_alloc, sz_set, sz_drew, sz_drewN]; omega) | (simp only [sz_alloc, sz_set, sz_drew, sz_drewN] at *; omega)) (fun hm => by have := hlt (w.heap.size) (by simp [hm]); omega)); have hfw2k0 := fun o => World.frozen?_of_block (a := ⟨w.heap.size, o, none⟩) (q2.block (w.heap.size) (by first | omega | (simp only [sz_alloc, sz_set, sz_drew, sz_drewN]; omega) | (simp only [sz_alloc, sz_set, sz_drew, sz_drewN] at *; omega)) (fun hm => by have := hlt (w.heap.size) (by simp [hm]); omega))
  go_wp2
  go_ret
  have p1' := p1.only q2 (fun g hg => ⟨fun hm => hdis g hg g hm rfl, by have := hlt g (List.mem_append_left _ hg); omega⟩)
  exact ⟨ret_int (by unfold Tb.cnt; push_cast; omega), ⟨A, c, A', c', b1, b2, by rw [Tb.mark, mkS_length, mkS_length], p1', p2, rfl⟩,
    (((OnlyB.refl _ w).alloc _).trans (q1.mono fun g hg => List.mem_append_left _ hg)).trans (q2.mono fun g hg => List.mem_append_right _ hg)⟩

theorem heldTable (v : Value) (T : Tb) (k0 : Nat) (w : World) (h : RdTb w w.heap.size v (T.mark k0)) (hk0 : k0 ≤ 2305843009213693952) (hn : T.tot ≤ 1048576) :
    Calls Try.prog 15 #[v, .int .i64 k0] w fun e w' => e = .returned (.int .i64 ((k0 + T.cnt : Nat) : Int)) ∧ Below w.heap.size w w' := by
  have hn1 : T.l.length ≤ 1048576 := by unfold Tb.tot at hn; omega
  have hn2 : T.r.length ≤ 1048576 := by unfold Tb.tot at hn; omega
  have hc1 : cntS T.l ≤ 2 * T.l.length := cntS_pairs T.l
  obtain ⟨A, c, A', c', e, r1, r2⟩ := h
  rw [Tb.mark, mkS_length, mkS_length] at e
  subst e
  go_enter Try.func15, Try.ntmps15
  go_wp2_with fail
  refine (heldExitS A T.l c k0 _ (r1.up (by repeat (first | exact Below.refl _ _ | exact Since.out (by assumption) | refine Below.alloc ?_ (by first | omega | (simp only [sz_alloc, sz_set, sz_drew, sz_drewN]; omega) | (simp only [sz_alloc, sz_set, sz_drew, sz_drewN] at *; omega)) _ | refine Below.setCell ?_ (by first | omega | (simp only [sz_alloc, sz_set, sz_drew, sz_drewN]; omega) | (simp only [sz_alloc, sz_set, sz_drew, sz_drewN] at *; omega)) _ | refine Below.drew ?_ | refine below_drewN_ ?_ _))) (by omega) hn1).mono ?_
  rintro e w1 ⟨rfl, rfl⟩
  go_wp2_with fail
  refine (heldExitS A' T.r c' (k0 + cntS T.l) _ (r2.up (by repeat (first | exact Below.refl _ _ | exact Since.out (by assumption) | refine Below.alloc ?_ (by first | omega | (simp only [sz_alloc, sz_set, sz_drew, sz_drewN]; omega) | (simp only [sz_alloc, sz_set, sz_drew, sz_drewN] at *; omega)) _ | refine Below.setCell ?_ (by first | omega | (simp only [sz_alloc, sz_set, sz_drew, sz_drewN]; omega) | (simp only [sz_alloc, sz_set, sz_drew, sz_drewN] at *; omega)) _ | refine Below.drew ?_ | refine below_drewN_ ?_ _))) (by omega) hn2).mono ?_
  rintro e w2 ⟨rfl, rfl⟩
  go_wp2
  go_ret
  exact ⟨ret_int (by unfold Tb.cnt; push_cast; omega), (by repeat (first | exact Below.refl _ _ | exact Since.out (by assumption) | refine Below.alloc ?_ (by first | omega | (simp only [sz_alloc, sz_set, sz_drew, sz_drewN]; omega) | (simp only [sz_alloc, sz_set, sz_drew, sz_drewN] at *; omega)) _ | refine Below.setCell ?_ (by first | omega | (simp only [sz_alloc, sz_set, sz_drew, sz_drewN]; omega) | (simp only [sz_alloc, sz_set, sz_drew, sz_drewN] at *; omega)) _ | refine Below.drew ?_ | refine below_drewN_ ?_ _))⟩
theorem OwnTb.fresh {w' : World} {v : Value} {T : Tb} {bs : List Nat} {B : Nat} (h : OwnTb w' v T bs) (hf : Fresh B w' bs) : RdTb w' w'.heap.size v T := h.rd fun g hg => (hf.2 g hg).2
theorem OwnTb.below {w w' : World} {v : Value} {T : Tb} {bs : List Nat} {B : Nat} (h : OwnTb w v T bs) (hb : Below B w w') (hlt : ∀ g ∈ bs, g < B) : OwnTb w' v T bs := h.keep fun g hg => hb.block g (hlt g hg)
end Go.Proofs.Ytahcholnfehibaa
