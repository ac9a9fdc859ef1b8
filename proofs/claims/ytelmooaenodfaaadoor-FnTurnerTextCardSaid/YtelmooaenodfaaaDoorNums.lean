/-
  Lists of numbers, read by the reference. Conditions: those in each statement.
-/
import Derived.Test.YtelmooaenodfaaaDoorNum
import Derived.Test.YtelmooaenodfaaaDoorPInt64
set_option linter.unusedVariables false
set_option linter.unusedSimpArgs false
set_option maxRecDepth 100000
set_option maxHeartbeats 1000000
namespace Go.Proofs.YtelmooaenodfaaaDoor
open Go.RowKit

def numV (l : List UInt8) : Int := ((numL l).getD 0 : Nat)
def numsOk (xs : List (List UInt8)) : Bool := xs.all fun l => (numL l).isSome
def numsV (xs : List (List UInt8)) : List Int := xs.map numV
/-- It gives the numbers, in new memory, and whether all are. -/
def RetNums (xs : List (List UInt8)) (w : World) (e : Ending) (w' : World) : Prop :=
  ∃ A c bs, ∃ ys : List Int, e = .returned (.tuple #[.slice A ys.length c, .bool (numsOk xs)]) ∧ (numsOk xs = true → ys = numsV xs) ∧ ys.length ≤ xs.length ∧ OwnS w' A ys bs ∧ Fresh w.heap.size w' bs ∧ Below w.heap.size w w'
theorem bs_get {xs : List (List UInt8)} {k : Nat} {x : List UInt8} (h : xs[k]? = some x) : (xs.map Bs.mk)[k]? = some ⟨x⟩ := by rw [List.getElem?_map, h]; rfl

theorem glue_in {p : List UInt8} {xs : List (List UInt8)} {n : Nat} (h : ∀ x ∈ xs, x.length ≤ n) : ∀ x ∈ glue p xs, x.length ≤ p.length + n := by
  intro x hx
  cases xs with
  | nil => simp [glue] at hx; subst hx; omega
  | cons y ys =>
    simp only [glue, List.mem_cons] at hx
    rcases hx with rfl | hx
    · have := h y (List.mem_cons_self ..)
      rw [List.length_append]; omega
    · have := h x (List.mem_cons_of_mem _ hx); omega
theorem splitL_in (c : UInt8) : ∀ l : List UInt8, ∀ x ∈ splitL c l, x.length ≤ l.length
  | [], x, hx => by simp [splitL] at hx; subst hx; simp
  | b :: l, x, hx => by
    unfold splitL at hx
    have ih := splitL_in c l
    split at hx
    · rcases List.mem_cons.1 hx with rfl | hx
      · simp
      · have := ih x hx; simp; omega
    · have := glue_in ih x hx
      simp at this ⊢; omega

set_option maxHeartbeats 4000000 in
theorem numbers_spec (A : Option Addr) (c : Nat) (xs : List (List UInt8)) (w : World) (r : RdS w w.heap.size A (xs.map Bs.mk)) (h1 : 1 ≤ xs.length) (hl : xs.length ≤ 1048577) (hx : ∀ x ∈ xs, x.length ≤ 1048576) :
    Calls Tryd.prog 54 #[.slice A xs.length c, .int .i64 1] w (RetNums xs.tail w) := by
  have HX := Lib.hid hx
  clear hx
  go_enter Tryd.func54, Tryd.ntmps54
  go_wp2
  go_loopw [6, 7] (fun out i wr => ∃ (k : Nat) (D : Option Addr) (m : Nat), k + 1 ≤ xs.length ∧ i = .int .i64 ((k + 1 : Nat) : Int) ∧ out = .slice D k m ∧ Hid (Acc wr w.heap.size 2 D k m (numsV (xs.tail.take k)) []) ∧ Hid (numsOk (xs.tail.take k) = true) ∧ Since w wr) (fun _ i _ => xs.length + 1 - (intOf i).toNat)
  case atStart => exact ⟨0, _, _, h1, rfl, rfl, Lib.hid (Acc.empty_ (new_block rfl) (Nat.le_refl _)), Lib.hid rfl, ⟨(by repeat (first | exact Below.refl _ _ | refine Below.alloc ?_ (by first | omega | (simp only [sz_alloc, sz_set, sz_drew, sz_drewN]; omega) | (simp only [sz_alloc, sz_set, sz_drew, sz_drewN] at *; omega)) _ | refine Below.setCell ?_ (by first | omega | (simp only [sz_alloc, sz_set, sz_drew, sz_drewN]; omega) | (simp only [sz_alloc, sz_set, sz_drew, sz_drewN] at *; omega)) _ | refine Below.drew ?_ | refine below_drewN_ ?_ _))⟩⟩
  case round =>
    obtain ⟨k, D, m, hk, rfl, rfl, HA, HO, hs⟩ := hrel
    obtain ⟨wo, rfl⟩ : ∃ wo, wo = wr := ⟨_, rfl⟩
    have hzo := hs.out.size
    by_cases hlt : k + 1 < xs.length
    · obtain ⟨x, hx⟩ := get_some hlt
      obtain ⟨b, o, rfl, hbb, cx⟩ := (r.below hs.out (Nat.le_refl _)).bs (bs_get hx)
      have hxl := HX.out x (List.mem_of_getElem? hx)
      have hd : xs.tail[k]? = some x := by rw [List.getElem?_tail]; exact hx
      have HT : Hid (xs.tail.take (k + 1) = xs.tail.take k ++ [x]) := Lib.hid (take_snoc hd)
      have HM := Lib.hid (List.mem_of_getElem? hd)
      have HN := Lib.hid (number_spec x wo (by omega))
      have i2 : (0 : Int) ≤ ((k + 1 : Nat) : Int) := by omega
      have i3 : ((k + 1 : Nat) : Int) < (xs.length : Int) := by omega
      clear hx hd
      cases hnl : numL x with
      | none =>
        rw [hnl] at HN
        have HNL := Lib.hid hnl
        clear hnl
        go_wp2_with fail
        refine HN.out.mono ?_
        rintro e _ ⟨rfl, rfl⟩
        go_wp2
        go_ret2
        obtain ⟨bs, ho, hf, -⟩ := HA.out.own
        have hno : numsOk xs.tail = false := by
          rw [Bool.eq_false_iff]
          intro h
          have := List.all_eq_true.1 h x HM.out
          rw [HNL.out] at this
          simp at this
        have hyl : (numsV (xs.tail.take k)).length = k := by unfold numsV; rw [List.length_map, List.length_take, List.length_tail]; omega
        refine ⟨D, m, bs, numsV (xs.tail.take k), by rw [hno, hyl]; rfl, by rw [hno]; simp, by rw [hyl, List.length_tail]; omega, ho, hf, hs.out⟩
      | some v =>
        rw [hnl] at HN
        have HNL := Lib.hid hnl
        clear hnl
        go_wp2_with fail
        refine HN.out.mono ?_
        rintro e _ ⟨rfl, rfl⟩
        go_wp2_with (at_builtin; refine wpList_push (α := Int) _ (by rfl) (.tmp 29) (.tmp 31) 83 (by rfl) w.heap.size 2 (.int .i64 0) 8 Tryd.underlying83 infoInt64S rfl D k m _ [] (by rfl) (HA.out.alloc _) wo.heap.size 1 (by rfl) (v : Int) [.int .i64 (v : Int)] [] ⟨rfl, rfl⟩ (new_cells (by first | rfl | simp [sz_set])) (fun u hu => by (simp at hu; subst hu; rfl)) ⟨List.nodup_nil, fun g hg => by simp at hg⟩ (fun g hg => by simp at hg) (by omega) (by omega) (by first | omega | (simp only [sz_alloc, sz_set, sz_drew, sz_drewN]; omega) | (simp only [sz_alloc, sz_set, sz_drew, sz_drewN] at *; omega)) ?_
                     intro D2 d2 w5 hacc hgr hnew
                     have HS5 : Since w w5 := ⟨Acc.since (HA.out.alloc _) hgr (by repeat (first | exact Below.refl _ _ | exact Since.out (by assumption) | refine Below.alloc ?_ (by first | omega | (simp only [sz_alloc, sz_set, sz_drew, sz_drewN]; omega) | (simp only [sz_alloc, sz_set, sz_drew, sz_drewN] at *; omega)) _ | refine Below.setCell ?_ (by first | omega | (simp only [sz_alloc, sz_set, sz_drew, sz_drewN]; omega) | (simp only [sz_alloc, sz_set, sz_drew, sz_drewN] at *; omega)) _ | refine Below.drew ?_ | refine below_drewN_ ?_ _)) (Nat.le_refl _) (by first | omega | (simp only [sz_alloc, sz_set, sz_drew, sz_drewN]; omega) | (simp only [sz_alloc, sz_set, sz_drew, sz_drewN] at *; omega))⟩
                     have HA5 := Lib.hid hacc
                     clear hacc hgr hnew)
        go_roundw
        case rel => exact ⟨k + 1, D2, d2, by omega, by go_num, rfl, Lib.hid (by rw [HT.out]; unfold numsV; rw [List.map_append, List.map_singleton, show numV x = (v : Int) by unfold numV; rw [HNL.out]; rfl]; exact HA5.out), Lib.hid (by rw [HT.out]; unfold numsOk; rw [List.all_append]; have := HO.out; unfold numsOk at this; rw [this]; simp [HNL.out]), HS5⟩
        case measure => simp [intOf]; omega
    · have hke : k + 1 = xs.length := by omega
      have HKE := Lib.hid hke
      have i3 : ¬ (k : Int) + 1 < (xs.length : Int) := by omega
      clear hke
      go_wp2
      go_ret2
      obtain ⟨bs, ho, hf, -⟩ := HA.out.own
      have ht : xs.tail.take k = xs.tail := by apply List.take_of_length_le; rw [List.length_tail]; have := HKE.out; omega
      have hno := HO.out
      rw [ht] at hno ho
      have hyl : (numsV xs.tail).length = k := by unfold numsV; rw [List.length_map, List.length_tail]; have := HKE.out; omega
      refine ⟨D, m, bs, numsV xs.tail, by rw [hno, hyl]; rfl, fun _ => rfl, by rw [hyl, List.length_tail]; omega, ho, hf, hs.out⟩
end Go.Proofs.YtelmooaenodfaaaDoor
