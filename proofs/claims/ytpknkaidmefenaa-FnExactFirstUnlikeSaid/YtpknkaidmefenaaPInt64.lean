/-
  Contracts of the laws' own helpers for []int64: sizes, copies, comparisons, marks. Conditions: those in each statement.
-/
import Derived.Test.YtpknkaidmefenaaMem
import Derived.Test.YtpknkaidmefenaaRows
import Derived.ProofKit
import Derived.StillTailTactics
import Derived.BigQuiet
set_option linter.unusedVariables false
set_option linter.unusedSimpArgs false
set_option maxRecDepth 100000
set_option maxHeartbeats 1000000
namespace Go.Proofs.Ytpknkaidmefenaa
open Go.RowKit

theorem infoInt64S : (Try.prog.info? 2).map (fun i => (i.zero, i.size, i.bytes)) = some (some (.int .i64 0), 1, 8) := by kernel_rfl
def encInt64 (x : Int) : List Value := [.int .i64 x]
theorem ElsInt64S {w : World} : ∀ {xs : List Int} {cs : List Value} {bs : List Nat}, Els w xs cs bs ↔ cs = xs.map (fun x => .int .i64 x) ∧ bs = []
  | [], cs, bs => by simp [Els]
  | x :: xs, cs, bs => by
    simp only [Els, ElsInt64S, List.map_cons, Cod.own]
    constructor
    · rintro ⟨c1, c2, b1, b2, rfl, rfl, ⟨rfl, rfl⟩, rfl, rfl⟩
      exact ⟨rfl, rfl⟩
    · rintro ⟨rfl, rfl⟩
      exact ⟨_, _, [], [], rfl, rfl, ⟨rfl, rfl⟩, rfl, rfl⟩
theorem cntSInt64S : ∀ xs : List Int, cntS xs = xs.length
  | [] => rfl
  | x :: xs => by rw [cntS, cntSInt64S xs, List.length_cons]; show 1 + _ = _; omega
theorem setInt64S {cur : Array Value} {m k : Nat} {P R : List Int} {x : Int} (y : Int) (h : cur.toList.take m = (P ++ x :: R).map (fun x => .int .i64 x)) (hP : P.length = k) :
    (cur.setIfInBounds k (.int .i64 y)).toList.take m = (P ++ y :: R).map (fun x => .int .i64 x) := by
  rw [Array.toList_setIfInBounds, List.take_set, h, List.map_append, List.map_append, List.map_cons, List.map_cons]
  rw [List.set_append_right _ _ (by simp [hP]), List.length_map, hP, Nat.sub_self]
  rfl

theorem szInt64S (A : Option Addr) (n c : Nat) (left : Int) (w : World) (hn : (n : Int) ≤ 9223372036854775807) (h1 : 0 ≤ left) (h2 : left ≤ 1048576) :
    Calls Try.prog 30 #[.slice A n c, .int .i64 left] w (RetLeft left n w) := by
  go_enter Try.func30, Try.ntmps30
  go_wp2
  all_goals go_ret
  · exact ⟨_, rfl, .inl rfl, Below.refl _ _⟩
  · exact ⟨_, rfl, .inr ⟨by omega, by omega⟩, Below.refl _ _⟩

theorem toInt64S (A : Option Addr) (xs : List Int) (c : Nat) (w : World) (h1 : RdS w w.heap.size A xs) (hn : xs.length ≤ 1048576) :
    Calls Try.prog 35 #[.slice A xs.length c] w fun e w' => e = .returned (.slice (some ⟨w.heap.size, 0, none⟩) xs.length xs.length) ∧ OwnS w' (some ⟨w.heap.size, 0, none⟩) xs [w.heap.size] ∧ Below w.heap.size w w' ∧ w.heap.size < w'.heap.size := by
  have hmk := make_full (P := Try.prog) 33 2 _ _ _ _ Try.underlying33 infoInt64S rfl xs.length (by omega) (by omega)
  go_enter Try.func35, Try.ntmps35
  go_wp2
  go_loopw [4] (fun i wr => ∃ (k : Nat) (cur : Array Value), k ≤ xs.length ∧ i = .int .i64 k ∧ wr.heap[w.heap.size]? = some (.cells cur 2 (0, 0)) ∧ Hid (cur.size = xs.length ∧ Els wr (xs.take k) (cur.toList.take k) []) ∧ Below w.heap.size w wr)
    (fun i _ => xs.length - (intOf i).toNat)
  case atStart => exact ⟨0, _, Nat.zero_le _, rfl, heap_alloc_new w _, Lib.hid ⟨by simp [size_madeCells], by simp [Els]⟩, (Below.refl _ _).alloc (Nat.le_refl _) _⟩
  case round =>
    obtain ⟨k, cur, hk, rfl, hblk, hcur, hb⟩ := hrel
    by_cases hlt : k < xs.length
    · obtain ⟨x, hx⟩ := get_some hlt
      obtain ⟨b, o, rfl, hbb, c1⟩ := (h1.below hb (Nat.le_refl _)).int hx
      have HX := Lib.hid hx
      clear hx
      have HBLK := Lib.hid hblk
      clear hblk
      obtain ⟨u0, hu0⟩ := blk_cell (i := k) HBLK.out (by have := hcur.out.1; omega)
      have hf0 := blk_free (i := k) HBLK.out
      go_wp2
      go_roundw
      case rel =>
        have hz := hcur.out.1
        refine ⟨k + 1, _, by omega, by go_num, blk_set HBLK.out _, Lib.hid ⟨by simpa using hz, ?_⟩, hb.setCell (Nat.le_refl _) _⟩
        rw [fill1 _ (by omega), take_snoc HX.out]
        exact (hcur.out.2.keep (by simp)).snoc (b := []) ⟨rfl, rfl⟩
      case measure => simp [intOf]; omega
    · go_wp2
      go_ret
      obtain ⟨hz, he⟩ := hcur.out
      rw [List.take_of_length_le (by omega)] at he
      exact ⟨rfl, OwnS.of hblk he, hb, (Array.getElem?_eq_some_iff.1 hblk).1⟩

theorem eqInt64S (A A' : Option Addr) (xs : List Int) (c c' : Nat) (w : World) (h1 : RdS w w.heap.size A xs) (h2 : RdS w w.heap.size A' xs) (hn : xs.length ≤ 140737488355328) :
    Calls Try.prog 42 #[.slice A xs.length c, .slice A' xs.length c'] w fun e w' => e = .returned (.bool true) ∧ Below w.heap.size w w' := by
  go_enter Try.func42, Try.ntmps42
  go_wp2
  go_loopw [5] (fun i wr => ∃ k : Nat, k ≤ xs.length ∧ i = .int .i64 k ∧ Drew w wr) (fun i _ => xs.length - (intOf i).toNat)
  case atStart => exact ⟨0, Nat.zero_le _, rfl, Drew.refl _⟩
  case round =>
    obtain ⟨k, hk, rfl, hb⟩ := hrel
    by_cases hlt : k < xs.length
    · obtain ⟨x, hx⟩ := get_some hlt
      obtain ⟨b, o, rfl, hbb, c1⟩ := (hb.rd h1).int hx
      obtain ⟨b', o', rfl, hbb', c3⟩ := (hb.rd h2).int hx
      have i1 : (0 : Int) ≤ (k : Int) := by omega
      have i2 : (k : Int) < (xs.length : Int) := by omega
      clear hx
      go_wp2
      go_quiet (fail)
      go_wp2
      go_roundw
      case rel => exact ⟨k + 1, by omega, by go_num, hb.more _⟩
      case measure => simp [intOf]; omega
    · go_wp2
      go_ret
      exact ⟨rfl, hb.below _⟩

theorem markInt64S (A : Option Addr) (xs : List Int) (c k0 : Nat) (bs : List Nat) (w : World) (h : OwnS w A xs bs) (hk0 : k0 ≤ 4611686018427387904) (hn : xs.length ≤ 1048576) :
    Calls Try.prog 44 #[.slice A xs.length c, .int .i64 k0] w fun e w' => e = .returned (.int .i64 ((k0 + cntS xs : Nat) : Int)) ∧ OwnS w' A (mkS k0 xs) bs ∧ OnlyB bs w w' := by
  rw [cntSInt64S]
  rcases h with ⟨rfl, rfl⟩ | ⟨g, t, cur, cs, b2, rfl, hg, hc, he, rfl⟩
  · go_enter Try.func44, Try.ntmps44
    go_wp2
    go_loopw [1, 5] (fun kk i wr => kk = .int .i64 k0 ∧ i = .int .i64 0 ∧ wr = w) (fun _ i _ => 0)
    case atStart => exact ⟨rfl, rfl, rfl⟩
    case round =>
      obtain ⟨rfl, rfl, rfl⟩ := hrel
      go_wp2
      go_ret
      exact ⟨ret_int (by simp), .inl ⟨rfl, rfl⟩, OnlyB.refl _ _⟩
  · obtain ⟨hcs, rfl⟩ := ElsInt64S.1 he
    subst hcs
    have HC : Hid (cur.toList.take xs.length = xs.map (fun x => .int .i64 x)) := by rw [List.length_map] at hc; exact hc
    have hz : xs.length ≤ cur.size := by
      have := congrArg List.length HC.out
      rw [List.length_take, List.length_map] at this
      simp at this
      omega
    clear hc he
    go_enter Try.func44, Try.ntmps44
    go_wp2
    go_loopw [1, 5] (fun kk i wr => ∃ (k : Nat) (cur' : Array Value), k ≤ xs.length ∧ i = .int .i64 k ∧ kk = .int .i64 ((k0 + k : Nat) : Int) ∧ wr.heap[g]? = some (.cells cur' t (0, 0)) ∧ xs.length ≤ cur'.size ∧
        Hid (cur'.toList.take xs.length = (mkS k0 (xs.take k) ++ xs.drop k).map (fun x => .int .i64 x)) ∧ OnlyB [g] w wr) (fun _ i _ => xs.length - (intOf i).toNat)
    case atStart => exact ⟨0, cur, Nat.zero_le _, rfl, rfl, hg, hz, HC, OnlyB.refl _ _⟩
    case round =>
      obtain ⟨k, cur', hk, rfl, rfl, hblk, hz', hcur, ho⟩ := hrel
      by_cases hlt : k < xs.length
      · obtain ⟨x, hx⟩ := get_some hlt
        have HX := Lib.hid hx
        clear hx
        have HBLK := Lib.hid hblk
        clear hblk
        obtain ⟨u0, hu0⟩ := blk_cell (i := k) HBLK.out (by omega)
        have hf0 := blk_free (i := k) HBLK.out
        go_wp2
        go_roundw
        case rel =>
          refine ⟨k + 1, _, by omega, by go_num, by go_num, blk_set HBLK.out _, by simpa using hz', Lib.hid ?_, ho.setCell (List.mem_singleton.2 rfl) _⟩
          have h1 := hcur.out
          rw [drop_cons HX.out] at h1
          rw [take_snoc HX.out, mkS_snoc, cntSInt64S, List.length_take, Nat.min_eq_left hk, List.append_assoc, List.singleton_append]
          refine Eq.trans ?_ (setInt64S (k := k) ((k0 + k : Nat) : Int) h1 (by rw [mkS_length, List.length_take]; omega))
          push_cast
          rfl
        case measure => simp [intOf]; omega
      · go_wp2
        go_ret
        have h1 := hcur.out
        rw [List.take_of_length_le (l := xs) (by omega), List.drop_eq_nil_of_le (by omega), List.append_nil] at h1
        refine ⟨ret_int ?_, OwnS.of hblk (ElsInt64S.2 ⟨h1, rfl⟩), ho⟩
        have : k = xs.length := by omega
        rw [this]

theorem heldInt64S (A : Option Addr) (xs : List Int) (c k0 : Nat) (w : World) (h : RdS w w.heap.size A (mkS k0 xs)) (hk0 : k0 ≤ 4611686018427387904) (hn : xs.length ≤ 1048576) :
    Calls Try.prog 46 #[.slice A xs.length c, .int .i64 k0] w fun e w' => e = .returned (.int .i64 ((k0 + cntS xs : Nat) : Int)) ∧ w = w' := by
  rw [cntSInt64S]
  have hget : Hid (∀ k x, xs[k]? = some x → (mkS k0 xs)[k]? = some (((k0 + k : Nat) : Int))) := by
    intro k x hx
    have hk := (List.getElem?_eq_some_iff.1 hx).1
    have h1 := mkS_get k0 xs k x hx
    rw [cntSInt64S, List.length_take, Nat.min_eq_left (by omega)] at h1
    exact h1
  go_enter Try.func46, Try.ntmps46
  go_wp2
  go_loop [1, 5] (fun kk i => ∃ (k : Nat), k ≤ xs.length ∧ i = .int .i64 k ∧ kk = .int .i64 ((k0 + k : Nat) : Int)) (fun _ i => xs.length - (intOf i).toNat)
  case atStart => exact ⟨0, Nat.zero_le _, rfl, rfl⟩
  case round =>
    obtain ⟨k, hk, rfl, rfl⟩ := hrel
    by_cases hlt : k < xs.length
    · obtain ⟨x, hx⟩ := get_some hlt
      obtain ⟨b, o, rfl, hbb, c1⟩ := h.int (hget.out k x hx)
      skip
      clear hx
      go_wp2
      go_round
      case rel => exact ⟨k + 1, by omega, by go_num, by go_num⟩
      case measure => simp [intOf]; omega
    · go_wp2
      go_ret
      refine ⟨ret_int ?_, rfl⟩
      have : k = xs.length := by omega
      rw [this]
end Go.Proofs.Ytpknkaidmefenaa
