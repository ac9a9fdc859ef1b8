/-
  Exits read from a line of a text: by the reference, strictly, and by the program. Conditions: those in each statement.
-/
import Derived.Test.YtelmooaenodfaaaDoorNums
import Derived.Test.YtelmooaenodfaaaDoorPExit
set_option linter.unusedVariables false
set_option linter.unusedSimpArgs false
set_option maxRecDepth 100000
set_option maxHeartbeats 1000000
namespace Go.Proofs.YtelmooaenodfaaaDoor
open Go.RowKit

def yesT : List UInt8 := [121, 101, 115]
def noT : List UInt8 := [110, 111]
def onT : List UInt8 := [111, 110]
theorem str_list (a : List UInt8) : (str a).toList = a := ByteArray.toList_eq _
theorem lst_eq {a b : List UInt8} (h : a = b) : (a == b) = true := by rw [h]; simp
theorem lst_ne {a b : List UInt8} (h : a ≠ b) : (a == b) = false := by simpa using h
theorem u8_eq {b : UInt8} {c : UInt8} (h : b = c) : ((b.toNat : Int) == (c.toNat : Int)) = true := by rw [h]; simp
theorem u8_ne {b : UInt8} {c : UInt8} (h : b ≠ c) : ((b.toNat : Int) == (c.toNat : Int)) = false := by
  simp only [beq_eq_false_iff_ne, ne_eq]
  exact fun e => h (UInt8.toNat_inj.1 (by omega))
/-- An exit, read strictly. -/
def exV (x : List UInt8) : Int × Int := if x = yesT then (0, -1) else if x = noT then (0, -2) else if x = onT then (0, -3) else (if x[0]? = some 62 then 1 else -1, numV x.tail)
def exOk (x : List UInt8) : Bool := decide (x = yesT) || (decide (x = noT) || (decide (x = onT) || ((numL x.tail).isSome && (decide (x[0]? = some 60) || decide (x[0]? = some 62)))))
/-- The exits of the words behind the first one. -/
def RetExits (head : Bool) (xs : List (List UInt8)) (w : World) (e : Ending) (w' : World) : Prop :=
  ∃ A c bs, ∃ ys : List (Int × Int), e = .returned (.tuple #[.slice A ys.length c, .bool (head && xs.all exOk)]) ∧ ((head && xs.all exOk) = true → ys = xs.map exV) ∧ ys.length ≤ xs.length ∧ OwnS w' A ys bs ∧ Fresh w.heap.size w' bs ∧ Below w.heap.size w w'

theorem exits_end {w1 w wo : World} {D : Option Addr} {k m : Nat} {xs : List (List UInt8)} {ys : List (Int × Int)} {H : Bool} {v : Value} (ha : Acc wo w1.heap.size 135 D k m ys []) (hz : w.heap.size ≤ w1.heap.size) (hk : k ≤ xs.length) (hb : Below w.heap.size w wo)
    (hv : v = .tuple #[.slice D k m, .bool (H && xs.all exOk)]) (hy : (H && xs.all exOk) = true → ys = xs.map exV) : RetExits H xs w (.returned v) wo := by
  obtain ⟨bs, ho, hf, -⟩ := ha.own
  have hn : ys.length = k := ha.len.symm
  exact ⟨D, m, bs, ys, by rw [hv, hn], hy, by omega, ho, ⟨hf.1, fun g hg => ⟨Nat.le_trans hz (hf.2 g hg).1, (hf.2 g hg).2⟩⟩, hb⟩

set_option maxHeartbeats 8000000 in
theorem l03Read_spec (l u : List UInt8) (w : World) (hl : l.length ≤ 1048576) :
    Calls Tryd.prog 45 #[.string (str l), .string (str u)] w (RetExits (decide ((splitL 32 l)[0]? = some u)) (splitL 32 l).tail w) := by
  obtain ⟨xs, hxs⟩ : ∃ xs, xs = splitL 32 l := ⟨_, rfl⟩
  have HC := Lib.hid (fun W => split_spec l 32 32 rfl W hl)
  have hlen := splitL_len 32 l
  have hne := splitL_ne 32 l
  have hin : ∀ x ∈ splitL 32 l, x.length ≤ l.length := splitL_in 32 l
  rw [← hxs] at HC hlen hne hin ⊢
  clear hxs
  obtain ⟨x0, hx0⟩ := get_some (xs := xs) (k := 0) (List.length_pos_iff.2 hne)
  have h1 : 1 ≤ xs.length := List.length_pos_iff.2 hne
  have HX := Lib.hid hin
  have HD : Hid ((x0 == u) = decide (xs[0]? = some u)) := Lib.hid (by rw [hx0]; by_cases h : x0 = u <;> simp [h])
  have hx0b := bs_get hx0
  obtain ⟨H, hH⟩ : ∃ H, H = decide (xs[0]? = some u) := ⟨_, rfl⟩
  rw [← hH] at HD ⊢
  clear hin hne hx0 hH
  have tl := str_list
  go_enter Tryd.func45, Tryd.ntmps45
  go_wp2_with fail
  refine (HC.out _).mono ?_
  rintro e w1 ⟨A, c, rfl, r, -, hb1⟩
  have HB1 : Since w w1 := ⟨hb1⟩
  have hz1 := hb1.size
  obtain ⟨b0, o0, rfl, hb0, c0⟩ := r.bs hx0b
  rw [Nat.add_zero] at c0
  have hb1s : w.heap.size ≤ w1.heap.size := hz1
  go_wp2
  rw [HD.out]
  go_loopw [7, 8, 9] (fun out ok i wr => ∃ (k : Nat) (D : Option Addr) (m : Nat) (B : Bool), k + 1 ≤ xs.length ∧ out = .slice D k m ∧ ok = .bool B ∧ i = .int .i64 ((k + 1 : Nat) : Int) ∧ Hid (Acc wr w1.heap.size 135 D k m ((xs.tail.take k).map exV) []) ∧ Hid (B = (H && (xs.tail.take k).all exOk)) ∧ Since w1 wr) (fun _ _ i _ => xs.length + 1 - (intOf i).toNat)
  case atStart => exact ⟨0, _, _, H, h1, rfl, rfl, rfl, Lib.hid (Acc.empty_ (new_block rfl) (Nat.le_refl _)), Lib.hid (by simp), ⟨(by repeat (first | exact Below.refl _ _ | refine Below.alloc ?_ (by first | omega | (simp only [sz_alloc, sz_set, sz_drew, sz_drewN]; omega) | (simp only [sz_alloc, sz_set, sz_drew, sz_drewN] at *; omega)) _ | refine Below.setCell ?_ (by first | omega | (simp only [sz_alloc, sz_set, sz_drew, sz_drewN]; omega) | (simp only [sz_alloc, sz_set, sz_drew, sz_drewN] at *; omega)) _ | refine Below.drew ?_ | refine below_drewN_ ?_ _))⟩⟩
  case round =>
    obtain ⟨k, D, m, B, hk, rfl, rfl, rfl, HA, HO, hs⟩ := hrel
    obtain ⟨wo, rfl⟩ : ∃ wo, wo = wr := ⟨_, rfl⟩
    have hzo := hs.out.size
    have HSW : Hid (Below w.heap.size w wo) := Lib.hid (hb1.trans (hs.out.mono hb1s))
    by_cases hlt : k + 1 < xs.length
    · cases B with
      | false =>
        have i3 : (k : Int) + 1 < (xs.length : Int) := by omega
        have hf : Hid ((H && xs.tail.all exOk) = false) := Lib.hid (by
          have := HO.out
          cases H with
          | false => rfl
          | true =>
            simp only [Bool.true_and] at this ⊢
            rw [Bool.eq_false_iff]
            intro hc
            have h2 : (xs.tail.take k).all exOk = true := List.all_eq_true.2 fun y hy => List.all_eq_true.1 hc y (List.mem_of_mem_take hy)
            rw [h2] at this
            cases this)
        go_wp2
        go_ret2
        exact exits_end HA.out hb1s (by rw [List.length_tail]; omega) HSW.out (by rw [hf.out]; rfl) (fun h => by rw [hf.out] at h; cases h)
      | true =>
        obtain ⟨x, hx⟩ := get_some hlt
        obtain ⟨b, o, hbo, hbb, cx⟩ := (r.below hs.out (Nat.le_refl _)).bs (bs_get hx)
        cases hbo
        have hbb2 : b0 < wo.heap.size := by omega
        have hxl := HX.out x (List.mem_of_getElem? hx)
        have hd : xs.tail[k]? = some x := by rw [List.getElem?_tail]; exact hx
        have HT : Hid (xs.tail.take (k + 1) = xs.tail.take k ++ [x]) := Lib.hid (take_snoc hd)
        have HM := Lib.hid (List.mem_of_getElem? hd)
        have i2 : (0 : Int) ≤ (k : Int) + 1 := by omega
        have i3 : (k : Int) + 1 < (xs.length : Int) := by omega
        clear hx hd
        by_cases hyesT : x = yesT
        · have qyesT : (x == [121, 101, 115]) = true := lst_eq hyesT
          have HV : Hid (exV x = (0, -1)) := Lib.hid (by subst hyesT; rfl)
          have HE : Hid (exOk x = true) := Lib.hid (by subst hyesT; rfl)
          clear hyesT
          go_wp2_with (at_builtin; refine wpList_push (α := Int × Int) _ (by rfl) (.tmp 36) (.tmp 38) 22 (by rfl) w1.heap.size 135 (.agg #[.int .i64 0, .int .i64 0]) 16 Tryd.underlying22 infoExit rfl D k m _ [] (by rfl) (HA.out.below (C := wo.heap.size) (by repeat (first | exact Below.refl _ _ | refine Below.alloc ?_ (by first | omega | (simp only [sz_alloc, sz_set, sz_drew, sz_drewN]; omega) | (simp only [sz_alloc, sz_set, sz_drew, sz_drewN] at *; omega)) _ | refine Below.setCell ?_ (by first | omega | (simp only [sz_alloc, sz_set, sz_drew, sz_drewN]; omega) | (simp only [sz_alloc, sz_set, sz_drew, sz_drewN] at *; omega)) _ | refine Below.drew ?_ | refine below_drewN_ ?_ _)) (Nat.le_refl _)) (wo.heap.size) 1 (by rfl) (0, -1) [.int .i64 (0), .int .i64 (-1)] [] ⟨rfl, rfl⟩ (new_cells (by first | rfl | simp [sz_set])) (fun u hu => by (simp at hu; rcases hu with rfl | rfl <;> rfl)) ⟨List.nodup_nil, fun g hg => by simp at hg⟩ (fun g hg => by simp at hg) (by omega) (by omega) (by first | omega | (simp only [sz_alloc, sz_set, sz_drew, sz_drewN]; omega) | (simp only [sz_alloc, sz_set, sz_drew, sz_drewN] at *; omega)) ?_
                       intro D2 d2 w5 hacc hgr hnew
                       have HS5 : Since w1 w5 := ⟨Acc.since (HA.out.below (C := wo.heap.size) (by repeat (first | exact Below.refl _ _ | refine Below.alloc ?_ (by first | omega | (simp only [sz_alloc, sz_set, sz_drew, sz_drewN]; omega) | (simp only [sz_alloc, sz_set, sz_drew, sz_drewN] at *; omega)) _ | refine Below.setCell ?_ (by first | omega | (simp only [sz_alloc, sz_set, sz_drew, sz_drewN]; omega) | (simp only [sz_alloc, sz_set, sz_drew, sz_drewN] at *; omega)) _ | refine Below.drew ?_ | refine below_drewN_ ?_ _)) (Nat.le_refl _)) hgr (by repeat (first | exact Below.refl _ _ | exact Since.out (by assumption) | refine Below.alloc ?_ (by first | omega | (simp only [sz_alloc, sz_set, sz_drew, sz_drewN]; omega) | (simp only [sz_alloc, sz_set, sz_drew, sz_drewN] at *; omega)) _ | refine Below.setCell ?_ (by first | omega | (simp only [sz_alloc, sz_set, sz_drew, sz_drewN]; omega) | (simp only [sz_alloc, sz_set, sz_drew, sz_drewN] at *; omega)) _ | refine Below.drew ?_ | refine below_drewN_ ?_ _)) (Nat.le_refl _) (by first | omega | (simp only [sz_alloc, sz_set, sz_drew, sz_drewN]; omega) | (simp only [sz_alloc, sz_set, sz_drew, sz_drewN] at *; omega))⟩
                       have HA5 := Lib.hid hacc
                       clear hacc hgr hnew)
          go_roundw
          case rel => exact ⟨k + 1, D2, d2, true, by omega, rfl, by first | rfl | simp, by go_num, Lib.hid (by rw [HT.out, List.map_append, List.map_singleton, HV.out]; exact HA5.out), Lib.hid (by rw [HT.out, List.all_append, List.all_cons, List.all_nil, HE.out, ← Bool.and_assoc, ← HO.out]; simp), HS5⟩
          case measure => simp [intOf]; omega
        have qyesT : (x == [121, 101, 115]) = false := lst_ne hyesT
        by_cases hnoT : x = noT
        · have qnoT : (x == [110, 111]) = true := lst_eq hnoT
          have HV : Hid (exV x = (0, -2)) := Lib.hid (by subst hnoT; rfl)
          have HE : Hid (exOk x = true) := Lib.hid (by subst hnoT; rfl)
          clear hyesT hnoT
          go_wp2_with (at_builtin; refine wpList_push (α := Int × Int) _ (by rfl) (.tmp 42) (.tmp 44) 22 (by rfl) w1.heap.size 135 (.agg #[.int .i64 0, .int .i64 0]) 16 Tryd.underlying22 infoExit rfl D k m _ [] (by rfl) (HA.out.below (C := wo.heap.size) (by repeat (first | exact Below.refl _ _ | refine Below.alloc ?_ (by first | omega | (simp only [sz_alloc, sz_set, sz_drew, sz_drewN]; omega) | (simp only [sz_alloc, sz_set, sz_drew, sz_drewN] at *; omega)) _ | refine Below.setCell ?_ (by first | omega | (simp only [sz_alloc, sz_set, sz_drew, sz_drewN]; omega) | (simp only [sz_alloc, sz_set, sz_drew, sz_drewN] at *; omega)) _ | refine Below.drew ?_ | refine below_drewN_ ?_ _)) (Nat.le_refl _)) (wo.heap.size) 1 (by rfl) (0, -2) [.int .i64 (0), .int .i64 (-2)] [] ⟨rfl, rfl⟩ (new_cells (by first | rfl | simp [sz_set])) (fun u hu => by (simp at hu; rcases hu with rfl | rfl <;> rfl)) ⟨List.nodup_nil, fun g hg => by simp at hg⟩ (fun g hg => by simp at hg) (by omega) (by omega) (by first | omega | (simp only [sz_alloc, sz_set, sz_drew, sz_drewN]; omega) | (simp only [sz_alloc, sz_set, sz_drew, sz_drewN] at *; omega)) ?_
                       intro D2 d2 w5 hacc hgr hnew
                       have HS5 : Since w1 w5 := ⟨Acc.since (HA.out.below (C := wo.heap.size) (by repeat (first | exact Below.refl _ _ | refine Below.alloc ?_ (by first | omega | (simp only [sz_alloc, sz_set, sz_drew, sz_drewN]; omega) | (simp only [sz_alloc, sz_set, sz_drew, sz_drewN] at *; omega)) _ | refine Below.setCell ?_ (by first | omega | (simp only [sz_alloc, sz_set, sz_drew, sz_drewN]; omega) | (simp only [sz_alloc, sz_set, sz_drew, sz_drewN] at *; omega)) _ | refine Below.drew ?_ | refine below_drewN_ ?_ _)) (Nat.le_refl _)) hgr (by repeat (first | exact Below.refl _ _ | exact Since.out (by assumption) | refine Below.alloc ?_ (by first | omega | (simp only [sz_alloc, sz_set, sz_drew, sz_drewN]; omega) | (simp only [sz_alloc, sz_set, sz_drew, sz_drewN] at *; omega)) _ | refine Below.setCell ?_ (by first | omega | (simp only [sz_alloc, sz_set, sz_drew, sz_drewN]; omega) | (simp only [sz_alloc, sz_set, sz_drew, sz_drewN] at *; omega)) _ | refine Below.drew ?_ | refine below_drewN_ ?_ _)) (Nat.le_refl _) (by first | omega | (simp only [sz_alloc, sz_set, sz_drew, sz_drewN]; omega) | (simp only [sz_alloc, sz_set, sz_drew, sz_drewN] at *; omega))⟩
                       have HA5 := Lib.hid hacc
                       clear hacc hgr hnew)
          go_roundw
          case rel => exact ⟨k + 1, D2, d2, true, by omega, rfl, by first | rfl | simp, by go_num, Lib.hid (by rw [HT.out, List.map_append, List.map_singleton, HV.out]; exact HA5.out), Lib.hid (by rw [HT.out, List.all_append, List.all_cons, List.all_nil, HE.out, ← Bool.and_assoc, ← HO.out]; simp), HS5⟩
          case measure => simp [intOf]; omega
        have qnoT : (x == [110, 111]) = false := lst_ne hnoT
        by_cases honT : x = onT
        · have qonT : (x == [111, 110]) = true := lst_eq honT
          have HV : Hid (exV x = (0, -3)) := Lib.hid (by subst honT; rfl)
          have HE : Hid (exOk x = true) := Lib.hid (by subst honT; rfl)
          clear hyesT hnoT honT
          go_wp2_with (at_builtin; refine wpList_push (α := Int × Int) _ (by rfl) (.tmp 48) (.tmp 50) 22 (by rfl) w1.heap.size 135 (.agg #[.int .i64 0, .int .i64 0]) 16 Tryd.underlying22 infoExit rfl D k m _ [] (by rfl) (HA.out.below (C := wo.heap.size) (by repeat (first | exact Below.refl _ _ | refine Below.alloc ?_ (by first | omega | (simp only [sz_alloc, sz_set, sz_drew, sz_drewN]; omega) | (simp only [sz_alloc, sz_set, sz_drew, sz_drewN] at *; omega)) _ | refine Below.setCell ?_ (by first | omega | (simp only [sz_alloc, sz_set, sz_drew, sz_drewN]; omega) | (simp only [sz_alloc, sz_set, sz_drew, sz_drewN] at *; omega)) _ | refine Below.drew ?_ | refine below_drewN_ ?_ _)) (Nat.le_refl _)) (wo.heap.size) 1 (by rfl) (0, -3) [.int .i64 (0), .int .i64 (-3)] [] ⟨rfl, rfl⟩ (new_cells (by first | rfl | simp [sz_set])) (fun u hu => by (simp at hu; rcases hu with rfl | rfl <;> rfl)) ⟨List.nodup_nil, fun g hg => by simp at hg⟩ (fun g hg => by simp at hg) (by omega) (by omega) (by first | omega | (simp only [sz_alloc, sz_set, sz_drew, sz_drewN]; omega) | (simp only [sz_alloc, sz_set, sz_drew, sz_drewN] at *; omega)) ?_
                       intro D2 d2 w5 hacc hgr hnew
                       have HS5 : Since w1 w5 := ⟨Acc.since (HA.out.below (C := wo.heap.size) (by repeat (first | exact Below.refl _ _ | refine Below.alloc ?_ (by first | omega | (simp only [sz_alloc, sz_set, sz_drew, sz_drewN]; omega) | (simp only [sz_alloc, sz_set, sz_drew, sz_drewN] at *; omega)) _ | refine Below.setCell ?_ (by first | omega | (simp only [sz_alloc, sz_set, sz_drew, sz_drewN]; omega) | (simp only [sz_alloc, sz_set, sz_drew, sz_drewN] at *; omega)) _ | refine Below.drew ?_ | refine below_drewN_ ?_ _)) (Nat.le_refl _)) hgr (by repeat (first | exact Below.refl _ _ | exact Since.out (by assumption) | refine Below.alloc ?_ (by first | omega | (simp only [sz_alloc, sz_set, sz_drew, sz_drewN]; omega) | (simp only [sz_alloc, sz_set, sz_drew, sz_drewN] at *; omega)) _ | refine Below.setCell ?_ (by first | omega | (simp only [sz_alloc, sz_set, sz_drew, sz_drewN]; omega) | (simp only [sz_alloc, sz_set, sz_drew, sz_drewN] at *; omega)) _ | refine Below.drew ?_ | refine below_drewN_ ?_ _)) (Nat.le_refl _) (by first | omega | (simp only [sz_alloc, sz_set, sz_drew, sz_drewN]; omega) | (simp only [sz_alloc, sz_set, sz_drew, sz_drewN] at *; omega))⟩
                       have HA5 := Lib.hid hacc
                       clear hacc hgr hnew)
          go_roundw
          case rel => exact ⟨k + 1, D2, d2, true, by omega, rfl, by first | rfl | simp, by go_num, Lib.hid (by rw [HT.out, List.map_append, List.map_singleton, HV.out]; exact HA5.out), Lib.hid (by rw [HT.out, List.all_append, List.all_cons, List.all_nil, HE.out, ← Bool.and_assoc, ← HO.out]; simp), HS5⟩
          case measure => simp [intOf]; omega
        have qonT : (x == [111, 110]) = false := lst_ne honT
        by_cases hnil : x = []
        · have qnil : (x == []) = true := lst_eq hnil
          have hf : Hid ((H && xs.tail.all exOk) = false) := Lib.hid (by
            have hx0 : exOk x = false := by rw [hnil]; decide
            rw [Bool.and_eq_false_iff]
            refine .inr ?_
            rw [Bool.eq_false_iff]
            intro h
            have := List.all_eq_true.1 h x HM.out
            rw [hx0] at this
            cases this)
          clear hnil hyesT hnoT honT
          go_wp2
          go_ret2
          exact exits_end HA.out hb1s (by rw [List.length_tail]; omega) HSW.out (by rw [hf.out]; rfl) (fun h => by rw [hf.out] at h; cases h)
        have qnil : (x == []) = false := lst_ne hnil
        obtain ⟨b1, hb1x⟩ := get_some (xs := x) (k := 0) (List.length_pos_iff.2 hnil)
        have x1 : ∀ W, (Instr.index 9 (.string (str x)) (.int .i64 0)).run Tryd.prog W = .ok (.int .u8 (b1.toNat : Int)) W := fun W => idx_str (P := Tryd.prog) Tryd.underlying9 hb1x W
        have x2 : ∀ W, (Instr.slice 9 (.string (str x)) (some (.int .i64 1)) none none).run Tryd.prog W = .ok (.string (str x.tail)) W := fun W => by rw [← List.drop_one]; exact sl_from (P := Tryd.prog) Tryd.underlying9 (l := x) (i := 1) (List.length_pos_iff.2 hnil) W
        have HN := Lib.hid (fun W => number_spec x.tail W (by rw [List.length_tail]; omega))
        have HV0 : Hid (exV x = (if x[0]? = some 62 then 1 else -1, numV x.tail)) := Lib.hid (by unfold exV; rw [if_neg hyesT, if_neg hnoT, if_neg honT])
        have HE0 : Hid (exOk x = ((numL x.tail).isSome && (decide (x[0]? = some 60) || decide (x[0]? = some 62)))) := Lib.hid (by unfold exOk; rw [decide_eq_false hyesT, decide_eq_false hnoT, decide_eq_false honT]; rfl)
        have HX1 := Lib.hid hb1x
        obtain ⟨G, hG⟩ : ∃ G, G = (numL x.tail).isSome := ⟨_, rfl⟩
        obtain ⟨V, hV⟩ : ∃ V, V = numV x.tail := ⟨_, rfl⟩
        have HN : Hid (∀ W : World, Calls Tryd.prog 98 #[.string (str x.tail)] W fun e w' => e = .returned (.tuple #[.int .i64 V, .bool G]) ∧ W = w') := Lib.hid fun W => by rw [hV, hG]; exact HN.out W
        rw [← hG] at HE0
        rw [← hV] at HV0
        clear hnil hyesT hnoT honT hb1x hG hV
        by_cases h62 : b1 = 62
        · have q62 : ((b1.toNat : Int) == 62) = true := u8_eq (c := 62) h62
          have q60 : ((b1.toNat : Int) == 60) = false := u8_ne (c := 60) (by rw [h62]; decide)
          have HV : Hid (exV x = (1, V)) := Lib.hid (by rw [HV0.out, HX1.out, h62]; rfl)
          have HB1 := Lib.hid h62
          clear h62
          cases G with
          | false =>
            have HE : Hid (exOk x = false) := Lib.hid (by rw [HE0.out]; rfl)
            go_wp2_with fail
            refine (HN.out _).mono ?_
            rintro e _ ⟨rfl, rfl⟩
            go_wp2_with (at_builtin; refine wpList_push (α := Int × Int) _ (by rfl) (.tmp 91) (.tmp 93) 22 (by rfl) w1.heap.size 135 (.agg #[.int .i64 0, .int .i64 0]) 16 Tryd.underlying22 infoExit rfl D k m _ [] (by rfl) (HA.out.below (C := wo.heap.size) (by repeat (first | exact Below.refl _ _ | refine Below.alloc ?_ (by first | omega | (simp only [sz_alloc, sz_set, sz_drew, sz_drewN]; omega) | (simp only [sz_alloc, sz_set, sz_drew, sz_drewN] at *; omega)) _ | refine Below.setCell ?_ (by first | omega | (simp only [sz_alloc, sz_set, sz_drew, sz_drewN]; omega) | (simp only [sz_alloc, sz_set, sz_drew, sz_drewN] at *; omega)) _ | refine Below.drew ?_ | refine below_drewN_ ?_ _)) (Nat.le_refl _)) (wo.heap.size + 1) 1 (by rfl) (1, V) [.int .i64 (1), .int .i64 (V)] [] ⟨rfl, rfl⟩ (new_cells (by first | rfl | simp [sz_set])) (fun u hu => by (simp at hu; rcases hu with rfl | rfl <;> rfl)) ⟨List.nodup_nil, fun g hg => by simp at hg⟩ (fun g hg => by simp at hg) (by omega) (by omega) (by first | omega | (simp only [sz_alloc, sz_set, sz_drew, sz_drewN]; omega) | (simp only [sz_alloc, sz_set, sz_drew, sz_drewN] at *; omega)) ?_
                         intro D2 d2 w5 hacc hgr hnew
                         have HS5 : Since w1 w5 := ⟨Acc.since (HA.out.below (C := wo.heap.size) (by repeat (first | exact Below.refl _ _ | refine Below.alloc ?_ (by first | omega | (simp only [sz_alloc, sz_set, sz_drew, sz_drewN]; omega) | (simp only [sz_alloc, sz_set, sz_drew, sz_drewN] at *; omega)) _ | refine Below.setCell ?_ (by first | omega | (simp only [sz_alloc, sz_set, sz_drew, sz_drewN]; omega) | (simp only [sz_alloc, sz_set, sz_drew, sz_drewN] at *; omega)) _ | refine Below.drew ?_ | refine below_drewN_ ?_ _)) (Nat.le_refl _)) hgr (by repeat (first | exact Below.refl _ _ | exact Since.out (by assumption) | refine Below.alloc ?_ (by first | omega | (simp only [sz_alloc, sz_set, sz_drew, sz_drewN]; omega) | (simp only [sz_alloc, sz_set, sz_drew, sz_drewN] at *; omega)) _ | refine Below.setCell ?_ (by first | omega | (simp only [sz_alloc, sz_set, sz_drew, sz_drewN]; omega) | (simp only [sz_alloc, sz_set, sz_drew, sz_drewN] at *; omega)) _ | refine Below.drew ?_ | refine below_drewN_ ?_ _)) (Nat.le_refl _) (by first | omega | (simp only [sz_alloc, sz_set, sz_drew, sz_drewN]; omega) | (simp only [sz_alloc, sz_set, sz_drew, sz_drewN] at *; omega))⟩
                         have HA5 := Lib.hid hacc
                         clear hacc hgr hnew)
            go_roundw
            case rel => exact ⟨k + 1, D2, d2, false, by omega, rfl, by first | rfl | simp, by go_num, Lib.hid (by rw [HT.out, List.map_append, List.map_singleton, HV.out]; exact HA5.out), Lib.hid (by rw [HT.out, List.all_append, List.all_cons, List.all_nil, HE.out, ← Bool.and_assoc, ← HO.out]; simp), HS5⟩
            case measure => simp [intOf]; omega
          | true =>
            have HE : Hid (exOk x = true) := Lib.hid (by rw [HE0.out, HX1.out]; rw [HB1.out]; rfl)
            go_wp2_with fail
            refine (HN.out _).mono ?_
            rintro e _ ⟨rfl, rfl⟩
            go_wp2_with (at_builtin; refine wpList_push (α := Int × Int) _ (by rfl) (.tmp 91) (.tmp 93) 22 (by rfl) w1.heap.size 135 (.agg #[.int .i64 0, .int .i64 0]) 16 Tryd.underlying22 infoExit rfl D k m _ [] (by rfl) (HA.out.below (C := wo.heap.size) (by repeat (first | exact Below.refl _ _ | refine Below.alloc ?_ (by first | omega | (simp only [sz_alloc, sz_set, sz_drew, sz_drewN]; omega) | (simp only [sz_alloc, sz_set, sz_drew, sz_drewN] at *; omega)) _ | refine Below.setCell ?_ (by first | omega | (simp only [sz_alloc, sz_set, sz_drew, sz_drewN]; omega) | (simp only [sz_alloc, sz_set, sz_drew, sz_drewN] at *; omega)) _ | refine Below.drew ?_ | refine below_drewN_ ?_ _)) (Nat.le_refl _)) (wo.heap.size + 1) 1 (by rfl) (1, V) [.int .i64 (1), .int .i64 (V)] [] ⟨rfl, rfl⟩ (new_cells (by first | rfl | simp [sz_set])) (fun u hu => by (simp at hu; rcases hu with rfl | rfl <;> rfl)) ⟨List.nodup_nil, fun g hg => by simp at hg⟩ (fun g hg => by simp at hg) (by omega) (by omega) (by first | omega | (simp only [sz_alloc, sz_set, sz_drew, sz_drewN]; omega) | (simp only [sz_alloc, sz_set, sz_drew, sz_drewN] at *; omega)) ?_
                         intro D2 d2 w5 hacc hgr hnew
                         have HS5 : Since w1 w5 := ⟨Acc.since (HA.out.below (C := wo.heap.size) (by repeat (first | exact Below.refl _ _ | refine Below.alloc ?_ (by first | omega | (simp only [sz_alloc, sz_set, sz_drew, sz_drewN]; omega) | (simp only [sz_alloc, sz_set, sz_drew, sz_drewN] at *; omega)) _ | refine Below.setCell ?_ (by first | omega | (simp only [sz_alloc, sz_set, sz_drew, sz_drewN]; omega) | (simp only [sz_alloc, sz_set, sz_drew, sz_drewN] at *; omega)) _ | refine Below.drew ?_ | refine below_drewN_ ?_ _)) (Nat.le_refl _)) hgr (by repeat (first | exact Below.refl _ _ | exact Since.out (by assumption) | refine Below.alloc ?_ (by first | omega | (simp only [sz_alloc, sz_set, sz_drew, sz_drewN]; omega) | (simp only [sz_alloc, sz_set, sz_drew, sz_drewN] at *; omega)) _ | refine Below.setCell ?_ (by first | omega | (simp only [sz_alloc, sz_set, sz_drew, sz_drewN]; omega) | (simp only [sz_alloc, sz_set, sz_drew, sz_drewN] at *; omega)) _ | refine Below.drew ?_ | refine below_drewN_ ?_ _)) (Nat.le_refl _) (by first | omega | (simp only [sz_alloc, sz_set, sz_drew, sz_drewN]; omega) | (simp only [sz_alloc, sz_set, sz_drew, sz_drewN] at *; omega))⟩
                         have HA5 := Lib.hid hacc
                         clear hacc hgr hnew)
            go_roundw
            case rel => exact ⟨k + 1, D2, d2, true, by omega, rfl, by first | rfl | simp, by go_num, Lib.hid (by rw [HT.out, List.map_append, List.map_singleton, HV.out]; exact HA5.out), Lib.hid (by rw [HT.out, List.all_append, List.all_cons, List.all_nil, HE.out, ← Bool.and_assoc, ← HO.out]; simp), HS5⟩
            case measure => simp [intOf]; omega
        have q62 : ((b1.toNat : Int) == 62) = false := u8_ne (c := 62) h62
        have HV : Hid (exV x = (-1, V)) := Lib.hid (by rw [HV0.out, HX1.out, if_neg (by simpa using h62)])
        by_cases h60 : b1 = 60
        · have q60 : ((b1.toNat : Int) == 60) = true := u8_eq (c := 60) h60
          have HB1 := Lib.hid h60
          clear h60 h62
          cases G with
          | false =>
            have HE : Hid (exOk x = false) := Lib.hid (by rw [HE0.out]; rfl)
            go_wp2_with fail
            refine (HN.out _).mono ?_
            rintro e _ ⟨rfl, rfl⟩
            go_wp2_with (at_builtin; refine wpList_push (α := Int × Int) _ (by rfl) (.tmp 91) (.tmp 93) 22 (by rfl) w1.heap.size 135 (.agg #[.int .i64 0, .int .i64 0]) 16 Tryd.underlying22 infoExit rfl D k m _ [] (by rfl) (HA.out.below (C := wo.heap.size) (by repeat (first | exact Below.refl _ _ | refine Below.alloc ?_ (by first | omega | (simp only [sz_alloc, sz_set, sz_drew, sz_drewN]; omega) | (simp only [sz_alloc, sz_set, sz_drew, sz_drewN] at *; omega)) _ | refine Below.setCell ?_ (by first | omega | (simp only [sz_alloc, sz_set, sz_drew, sz_drewN]; omega) | (simp only [sz_alloc, sz_set, sz_drew, sz_drewN] at *; omega)) _ | refine Below.drew ?_ | refine below_drewN_ ?_ _)) (Nat.le_refl _)) (wo.heap.size + 1) 1 (by rfl) (-1, V) [.int .i64 (-1), .int .i64 (V)] [] ⟨rfl, rfl⟩ (new_cells (by first | rfl | simp [sz_set])) (fun u hu => by (simp at hu; rcases hu with rfl | rfl <;> rfl)) ⟨List.nodup_nil, fun g hg => by simp at hg⟩ (fun g hg => by simp at hg) (by omega) (by omega) (by first | omega | (simp only [sz_alloc, sz_set, sz_drew, sz_drewN]; omega) | (simp only [sz_alloc, sz_set, sz_drew, sz_drewN] at *; omega)) ?_
                         intro D2 d2 w5 hacc hgr hnew
                         have HS5 : Since w1 w5 := ⟨Acc.since (HA.out.below (C := wo.heap.size) (by repeat (first | exact Below.refl _ _ | refine Below.alloc ?_ (by first | omega | (simp only [sz_alloc, sz_set, sz_drew, sz_drewN]; omega) | (simp only [sz_alloc, sz_set, sz_drew, sz_drewN] at *; omega)) _ | refine Below.setCell ?_ (by first | omega | (simp only [sz_alloc, sz_set, sz_drew, sz_drewN]; omega) | (simp only [sz_alloc, sz_set, sz_drew, sz_drewN] at *; omega)) _ | refine Below.drew ?_ | refine below_drewN_ ?_ _)) (Nat.le_refl _)) hgr (by repeat (first | exact Below.refl _ _ | exact Since.out (by assumption) | refine Below.alloc ?_ (by first | omega | (simp only [sz_alloc, sz_set, sz_drew, sz_drewN]; omega) | (simp only [sz_alloc, sz_set, sz_drew, sz_drewN] at *; omega)) _ | refine Below.setCell ?_ (by first | omega | (simp only [sz_alloc, sz_set, sz_drew, sz_drewN]; omega) | (simp only [sz_alloc, sz_set, sz_drew, sz_drewN] at *; omega)) _ | refine Below.drew ?_ | refine below_drewN_ ?_ _)) (Nat.le_refl _) (by first | omega | (simp only [sz_alloc, sz_set, sz_drew, sz_drewN]; omega) | (simp only [sz_alloc, sz_set, sz_drew, sz_drewN] at *; omega))⟩
                         have HA5 := Lib.hid hacc
                         clear hacc hgr hnew)
            go_roundw
            case rel => exact ⟨k + 1, D2, d2, false, by omega, rfl, by first | rfl | simp, by go_num, Lib.hid (by rw [HT.out, List.map_append, List.map_singleton, HV.out]; exact HA5.out), Lib.hid (by rw [HT.out, List.all_append, List.all_cons, List.all_nil, HE.out, ← Bool.and_assoc, ← HO.out]; simp), HS5⟩
            case measure => simp [intOf]; omega
          | true =>
            have HE : Hid (exOk x = true) := Lib.hid (by rw [HE0.out, HX1.out]; rw [HB1.out]; rfl)
            go_wp2_with fail
            refine (HN.out _).mono ?_
            rintro e _ ⟨rfl, rfl⟩
            go_wp2_with (at_builtin; refine wpList_push (α := Int × Int) _ (by rfl) (.tmp 91) (.tmp 93) 22 (by rfl) w1.heap.size 135 (.agg #[.int .i64 0, .int .i64 0]) 16 Tryd.underlying22 infoExit rfl D k m _ [] (by rfl) (HA.out.below (C := wo.heap.size) (by repeat (first | exact Below.refl _ _ | refine Below.alloc ?_ (by first | omega | (simp only [sz_alloc, sz_set, sz_drew, sz_drewN]; omega) | (simp only [sz_alloc, sz_set, sz_drew, sz_drewN] at *; omega)) _ | refine Below.setCell ?_ (by first | omega | (simp only [sz_alloc, sz_set, sz_drew, sz_drewN]; omega) | (simp only [sz_alloc, sz_set, sz_drew, sz_drewN] at *; omega)) _ | refine Below.drew ?_ | refine below_drewN_ ?_ _)) (Nat.le_refl _)) (wo.heap.size + 1) 1 (by rfl) (-1, V) [.int .i64 (-1), .int .i64 (V)] [] ⟨rfl, rfl⟩ (new_cells (by first | rfl | simp [sz_set])) (fun u hu => by (simp at hu; rcases hu with rfl | rfl <;> rfl)) ⟨List.nodup_nil, fun g hg => by simp at hg⟩ (fun g hg => by simp at hg) (by omega) (by omega) (by first | omega | (simp only [sz_alloc, sz_set, sz_drew, sz_drewN]; omega) | (simp only [sz_alloc, sz_set, sz_drew, sz_drewN] at *; omega)) ?_
                         intro D2 d2 w5 hacc hgr hnew
                         have HS5 : Since w1 w5 := ⟨Acc.since (HA.out.below (C := wo.heap.size) (by repeat (first | exact Below.refl _ _ | refine Below.alloc ?_ (by first | omega | (simp only [sz_alloc, sz_set, sz_drew, sz_drewN]; omega) | (simp only [sz_alloc, sz_set, sz_drew, sz_drewN] at *; omega)) _ | refine Below.setCell ?_ (by first | omega | (simp only [sz_alloc, sz_set, sz_drew, sz_drewN]; omega) | (simp only [sz_alloc, sz_set, sz_drew, sz_drewN] at *; omega)) _ | refine Below.drew ?_ | refine below_drewN_ ?_ _)) (Nat.le_refl _)) hgr (by repeat (first | exact Below.refl _ _ | exact Since.out (by assumption) | refine Below.alloc ?_ (by first | omega | (simp only [sz_alloc, sz_set, sz_drew, sz_drewN]; omega) | (simp only [sz_alloc, sz_set, sz_drew, sz_drewN] at *; omega)) _ | refine Below.setCell ?_ (by first | omega | (simp only [sz_alloc, sz_set, sz_drew, sz_drewN]; omega) | (simp only [sz_alloc, sz_set, sz_drew, sz_drewN] at *; omega)) _ | refine Below.drew ?_ | refine below_drewN_ ?_ _)) (Nat.le_refl _) (by first | omega | (simp only [sz_alloc, sz_set, sz_drew, sz_drewN]; omega) | (simp only [sz_alloc, sz_set, sz_drew, sz_drewN] at *; omega))⟩
                         have HA5 := Lib.hid hacc
                         clear hacc hgr hnew)
            go_roundw
            case rel => exact ⟨k + 1, D2, d2, true, by omega, rfl, by first | rfl | simp, by go_num, Lib.hid (by rw [HT.out, List.map_append, List.map_singleton, HV.out]; exact HA5.out), Lib.hid (by rw [HT.out, List.all_append, List.all_cons, List.all_nil, HE.out, ← Bool.and_assoc, ← HO.out]; simp), HS5⟩
            case measure => simp [intOf]; omega
        have q60 : ((b1.toNat : Int) == 60) = false := u8_ne (c := 60) h60
        have HB1 := Lib.hid (And.intro h60 h62)
        clear h60 h62
        cases G with
        | false =>
          have HE : Hid (exOk x = false) := Lib.hid (by rw [HE0.out]; rfl)
          go_wp2_with fail
          refine (HN.out _).mono ?_
          rintro e _ ⟨rfl, rfl⟩
          go_wp2_with (at_builtin; refine wpList_push (α := Int × Int) _ (by rfl) (.tmp 91) (.tmp 93) 22 (by rfl) w1.heap.size 135 (.agg #[.int .i64 0, .int .i64 0]) 16 Tryd.underlying22 infoExit rfl D k m _ [] (by rfl) (HA.out.below (C := wo.heap.size) (by repeat (first | exact Below.refl _ _ | refine Below.alloc ?_ (by first | omega | (simp only [sz_alloc, sz_set, sz_drew, sz_drewN]; omega) | (simp only [sz_alloc, sz_set, sz_drew, sz_drewN] at *; omega)) _ | refine Below.setCell ?_ (by first | omega | (simp only [sz_alloc, sz_set, sz_drew, sz_drewN]; omega) | (simp only [sz_alloc, sz_set, sz_drew, sz_drewN] at *; omega)) _ | refine Below.drew ?_ | refine below_drewN_ ?_ _)) (Nat.le_refl _)) (wo.heap.size + 1) 1 (by rfl) (-1, V) [.int .i64 (-1), .int .i64 (V)] [] ⟨rfl, rfl⟩ (new_cells (by first | rfl | simp [sz_set])) (fun u hu => by (simp at hu; rcases hu with rfl | rfl <;> rfl)) ⟨List.nodup_nil, fun g hg => by simp at hg⟩ (fun g hg => by simp at hg) (by omega) (by omega) (by first | omega | (simp only [sz_alloc, sz_set, sz_drew, sz_drewN]; omega) | (simp only [sz_alloc, sz_set, sz_drew, sz_drewN] at *; omega)) ?_
                       intro D2 d2 w5 hacc hgr hnew
                       have HS5 : Since w1 w5 := ⟨Acc.since (HA.out.below (C := wo.heap.size) (by repeat (first | exact Below.refl _ _ | refine Below.alloc ?_ (by first | omega | (simp only [sz_alloc, sz_set, sz_drew, sz_drewN]; omega) | (simp only [sz_alloc, sz_set, sz_drew, sz_drewN] at *; omega)) _ | refine Below.setCell ?_ (by first | omega | (simp only [sz_alloc, sz_set, sz_drew, sz_drewN]; omega) | (simp only [sz_alloc, sz_set, sz_drew, sz_drewN] at *; omega)) _ | refine Below.drew ?_ | refine below_drewN_ ?_ _)) (Nat.le_refl _)) hgr (by repeat (first | exact Below.refl _ _ | exact Since.out (by assumption) | refine Below.alloc ?_ (by first | omega | (simp only [sz_alloc, sz_set, sz_drew, sz_drewN]; omega) | (simp only [sz_alloc, sz_set, sz_drew, sz_drewN] at *; omega)) _ | refine Below.setCell ?_ (by first | omega | (simp only [sz_alloc, sz_set, sz_drew, sz_drewN]; omega) | (simp only [sz_alloc, sz_set, sz_drew, sz_drewN] at *; omega)) _ | refine Below.drew ?_ | refine below_drewN_ ?_ _)) (Nat.le_refl _) (by first | omega | (simp only [sz_alloc, sz_set, sz_drew, sz_drewN]; omega) | (simp only [sz_alloc, sz_set, sz_drew, sz_drewN] at *; omega))⟩
                       have HA5 := Lib.hid hacc
                       clear hacc hgr hnew)
          go_roundw
          case rel => exact ⟨k + 1, D2, d2, false, by omega, rfl, by first | rfl | simp, by go_num, Lib.hid (by rw [HT.out, List.map_append, List.map_singleton, HV.out]; exact HA5.out), Lib.hid (by rw [HT.out, List.all_append, List.all_cons, List.all_nil, HE.out, ← Bool.and_assoc, ← HO.out]; simp), HS5⟩
          case measure => simp [intOf]; omega
        | true =>
          have HE : Hid (exOk x = false) := Lib.hid (by rw [HE0.out, HX1.out]; simp [HB1.out.1, HB1.out.2])
          go_wp2_with fail
          refine (HN.out _).mono ?_
          rintro e _ ⟨rfl, rfl⟩
          go_wp2_with (at_builtin; refine wpList_push (α := Int × Int) _ (by rfl) (.tmp 91) (.tmp 93) 22 (by rfl) w1.heap.size 135 (.agg #[.int .i64 0, .int .i64 0]) 16 Tryd.underlying22 infoExit rfl D k m _ [] (by rfl) (HA.out.below (C := wo.heap.size) (by repeat (first | exact Below.refl _ _ | refine Below.alloc ?_ (by first | omega | (simp only [sz_alloc, sz_set, sz_drew, sz_drewN]; omega) | (simp only [sz_alloc, sz_set, sz_drew, sz_drewN] at *; omega)) _ | refine Below.setCell ?_ (by first | omega | (simp only [sz_alloc, sz_set, sz_drew, sz_drewN]; omega) | (simp only [sz_alloc, sz_set, sz_drew, sz_drewN] at *; omega)) _ | refine Below.drew ?_ | refine below_drewN_ ?_ _)) (Nat.le_refl _)) (wo.heap.size + 1) 1 (by rfl) (-1, V) [.int .i64 (-1), .int .i64 (V)] [] ⟨rfl, rfl⟩ (new_cells (by first | rfl | simp [sz_set])) (fun u hu => by (simp at hu; rcases hu with rfl | rfl <;> rfl)) ⟨List.nodup_nil, fun g hg => by simp at hg⟩ (fun g hg => by simp at hg) (by omega) (by omega) (by first | omega | (simp only [sz_alloc, sz_set, sz_drew, sz_drewN]; omega) | (simp only [sz_alloc, sz_set, sz_drew, sz_drewN] at *; omega)) ?_
                       intro D2 d2 w5 hacc hgr hnew
                       have HS5 : Since w1 w5 := ⟨Acc.since (HA.out.below (C := wo.heap.size) (by repeat (first | exact Below.refl _ _ | refine Below.alloc ?_ (by first | omega | (simp only [sz_alloc, sz_set, sz_drew, sz_drewN]; omega) | (simp only [sz_alloc, sz_set, sz_drew, sz_drewN] at *; omega)) _ | refine Below.setCell ?_ (by first | omega | (simp only [sz_alloc, sz_set, sz_drew, sz_drewN]; omega) | (simp only [sz_alloc, sz_set, sz_drew, sz_drewN] at *; omega)) _ | refine Below.drew ?_ | refine below_drewN_ ?_ _)) (Nat.le_refl _)) hgr (by repeat (first | exact Below.refl _ _ | exact Since.out (by assumption) | refine Below.alloc ?_ (by first | omega | (simp only [sz_alloc, sz_set, sz_drew, sz_drewN]; omega) | (simp only [sz_alloc, sz_set, sz_drew, sz_drewN] at *; omega)) _ | refine Below.setCell ?_ (by first | omega | (simp only [sz_alloc, sz_set, sz_drew, sz_drewN]; omega) | (simp only [sz_alloc, sz_set, sz_drew, sz_drewN] at *; omega)) _ | refine Below.drew ?_ | refine below_drewN_ ?_ _)) (Nat.le_refl _) (by first | omega | (simp only [sz_alloc, sz_set, sz_drew, sz_drewN]; omega) | (simp only [sz_alloc, sz_set, sz_drew, sz_drewN] at *; omega))⟩
                       have HA5 := Lib.hid hacc
                       clear hacc hgr hnew)
          go_roundw
          case rel => exact ⟨k + 1, D2, d2, false, by omega, rfl, by first | rfl | simp, by go_num, Lib.hid (by rw [HT.out, List.map_append, List.map_singleton, HV.out]; exact HA5.out), Lib.hid (by rw [HT.out, List.all_append, List.all_cons, List.all_nil, HE.out, ← Bool.and_assoc, ← HO.out]; simp), HS5⟩
          case measure => simp [intOf]; omega
    · have hke : k + 1 = xs.length := by omega
      have HKE := Lib.hid hke
      have i3 : ¬ (k : Int) + 1 < (xs.length : Int) := by omega
      have ht : Hid (xs.tail.take k = xs.tail) := Lib.hid (by apply List.take_of_length_le; rw [List.length_tail]; omega)
      clear hke
      go_wp2
      go_ret2
      have hb := HO.out
      rw [ht.out] at hb
      have ha := HA.out
      rw [ht.out] at ha
      have hkl : xs.tail.length = k := by rw [List.length_tail]; have := HKE.out; omega
      exact exits_end (xs := xs.tail) (ys := xs.tail.map exV) ha hb1s (by rw [hkl]; exact Nat.le_refl _) HSW.out (by rw [hb]; rfl) (fun _ => rfl)
end Go.Proofs.YtelmooaenodfaaaDoor
