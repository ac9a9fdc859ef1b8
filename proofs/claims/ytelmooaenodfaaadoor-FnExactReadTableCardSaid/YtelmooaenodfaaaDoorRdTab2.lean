/-
  Exits read from a line by the program. Conditions: those in each statement.
-/
import Derived.Test.YtelmooaenodfaaaDoorRdTab
set_option linter.unusedVariables false
set_option linter.unusedSimpArgs false
set_option maxRecDepth 100000
set_option maxHeartbeats 1000000
namespace Go.Proofs.YtelmooaenodfaaaDoor
open Go.RowKit

def idxE (x : List UInt8) : Int := Lib.idxOfS [str onT, str noT, str yesT] (str x)
/-- An exit, as the program reads it. -/
def exI (x : List UInt8) : Int × Int := if x[0]? = some 62 then (1, numI x.tail) else if x[0]? = some 60 then (-1, numI x.tail) else (0, idxE x - 3)
theorem idxE_bound (x : List UInt8) : -1 ≤ idxE x ∧ idxE x ≤ 2 := by
  unfold idxE Lib.idxOfS
  simp only [Lib.idxFromS]
  split
  · constructor <;> decide
  · split
    · constructor <;> decide
    · split <;> constructor <;> decide
theorem pre_one (x : List UInt8) (c : UInt8) : Lib.hasPrefix (str x).data.toList (⟨#[c]⟩ : ByteArray).data.toList = decide (x[0]? = some c) := by
  cases x with
  | nil => simp [str, Lib.hasPrefix]
  | cons b x => simp [str, Lib.hasPrefix, List.isPrefixOf]; by_cases h : c = b
                · subst h; simp
                · rw [decide_eq_false (fun e => h e.symm)]; simpa using h

theorem exI_end {w wo : World} {D : Option Addr} {k m : Nat} {ys R : List (Int × Int)} {v : Value} (ha : Acc wo w.heap.size 135 D k m ys []) (hy : ys = R) (hb : Below w.heap.size w wo) (hv : v = .slice D k m := by rfl) : RetOwn R w (.returned v) wo := by
  obtain ⟨bs, ho, hf, -⟩ := ha.own
  have hn : ys.length = k := ha.len.symm
  subst hy
  exact ⟨D, m, bs, by rw [hv, hn], ho, hf, hb⟩

set_option maxHeartbeats 8000000 in
theorem readExits_impl (l : List UInt8) (w : World) (hE : Env w) (hl : l.length ≤ 1048576) :
    Calls Tryd.prog 49 #[.string (str l)] w (RetOwn ((splitL 32 l).tail.map exI) w) := by
  have HE := Lib.hid hE
  clear hE
  obtain ⟨xs, hxs⟩ : ∃ xs, xs = splitL 32 l := ⟨_, rfl⟩
  have HC := Lib.hid (fun W hW => split_impl2 l 32 W hW hl)
  have hlen := splitL_len 32 l
  have hne := splitL_ne 32 l
  have hin : ∀ x ∈ splitL 32 l, x.length ≤ l.length := splitL_in 32 l
  rw [← hxs] at HC hlen hne hin ⊢
  clear hxs
  have h1 : 1 ≤ xs.length := List.length_pos_iff.2 hne
  have HX := Lib.hid hin
  obtain ⟨x0, hx0⟩ := get_some (xs := xs) (k := 0) h1
  have hx0b := bs_get hx0
  obtain ⟨R, hR⟩ : ∃ R, R = xs.tail.map exI := ⟨_, rfl⟩
  rw [← hR]
  have HR := Lib.hid hR
  clear hin hne hx0 hR
  go_enter Tryd.func49, Tryd.ntmps49
  go_wp2_with fail
  refine (HC.out _ (HE.out.up (by repeat (first | exact Below.refl _ _ | refine Below.alloc ?_ (by first | omega | (simp only [sz_alloc, sz_set, sz_drew, sz_drewN]; omega) | (simp only [sz_alloc, sz_set, sz_drew, sz_drewN] at *; omega)) _ | refine Below.setCell ?_ (by first | omega | (simp only [sz_alloc, sz_set, sz_drew, sz_drewN]; omega) | (simp only [sz_alloc, sz_set, sz_drew, sz_drewN] at *; omega)) _ | refine Below.drew ?_ | refine below_drewN_ ?_ _)))).mono ?_
  rintro e w1 ⟨b0, rfl, r, hfr, hblt, hb1⟩
  simp only [sz_alloc] at hfr
  have hb0n : w.heap.size < b0 := by omega
  have c0 : w1.cell? ⟨b0, 0, none⟩ = some (.string (str x0)) := by
    obtain ⟨b', o', e', _, h'⟩ := r.bs hx0b
    cases e'
    exact h'
  have hO : w1.heap[w.heap.size]? = some (.cells #[] 135 (0, 0)) := (hb1.block _ (by simp [sz_alloc])).trans (new_block rfl)
  have HB1 : Since w w1 := ⟨below_cat (B := w.heap.size) (by repeat (first | exact Below.refl _ _ | refine Below.alloc ?_ (by first | omega | (simp only [sz_alloc, sz_set, sz_drew, sz_drewN]; omega) | (simp only [sz_alloc, sz_set, sz_drew, sz_drewN] at *; omega)) _ | refine Below.setCell ?_ (by first | omega | (simp only [sz_alloc, sz_set, sz_drew, sz_drewN]; omega) | (simp only [sz_alloc, sz_set, sz_drew, sz_drewN] at *; omega)) _ | refine Below.drew ?_ | refine below_drewN_ ?_ _)) hb1 (by first | omega | (simp only [sz_alloc, sz_set, sz_drew, sz_drewN]; omega) | (simp only [sz_alloc, sz_set, sz_drew, sz_drewN] at *; omega))⟩
  have hz1 := hb1.size
  simp only [sz_alloc] at hz1
  have HO := Lib.hid hO
  clear hO hfr
  have hstart : Hid (Acc w1 w.heap.size 135 (some ⟨w.heap.size, 0, none⟩) 0 0 ([] : List (Int × Int)) []) := Lib.hid (Acc.empty_ HO.out (Nat.le_refl _))
  by_cases hone : xs.length = 1
  · have hRe : Hid (R = []) := Lib.hid (by
      rw [HR.out]
      cases xs with
      | nil => rfl
      | cons y ys => simp at hone; simp [hone])
    rw [hone]
    have H0 := hstart
    go_wp2
    go_loopw [3, 12] (fun out i wr => out = .slice (some ⟨w.heap.size, 0, none⟩) 0 0 ∧ i = .int .i64 0 ∧ wr = w1) (fun _ _ _ => 0)
    case atStart => exact ⟨rfl, rfl, rfl⟩
    case round =>
      obtain ⟨rfl, rfl, rfl⟩ := hrel
      go_wp2
      go_ret
      exact exI_end H0.out (by rw [hRe.out]) HB1.out
  · have i1 : (1 : Int) ≤ (xs.length : Int) := by omega
    go_wp2
    obtain ⟨n, hn⟩ : ∃ n, n = xs.length - 1 := ⟨_, rfl⟩
    rw [← hn]
    have HN := Lib.hid hn
    have hnb : n ≤ 1048576 := by omega
    have rt := rd_tail r
    clear hn
    go_loopw [3, 12] (fun out i wr => ∃ (k : Nat) (D : Option Addr) (m : Nat), k ≤ n ∧ out = .slice D k m ∧ i = .int .i64 k ∧ Hid (Acc wr w.heap.size 135 D k m ((xs.tail.take k).map exI) []) ∧ Hid (wr.heap[b0]? = w1.heap[b0]?) ∧ Hid (∀ a, D = some a → a.block ≠ b0) ∧ Hid (w1.heap.size ≤ wr.heap.size) ∧ Since w wr) (fun _ i _ => n - (intOf i).toNat)
    case atStart => exact ⟨0, _, _, Nat.zero_le _, rfl, rfl, Lib.hid (by simpa using hstart.out), Lib.hid rfl, Lib.hid (fun a ha => by cases ha; simp; omega), Lib.hid (Nat.le_refl _), HB1⟩
    case round =>
      obtain ⟨k, D, m, hk, rfl, rfl, HA, HK, HD, HZ, hs⟩ := hrel
      obtain ⟨wo, rfl⟩ : ∃ wo, wo = wr := ⟨_, rfl⟩
      have hzo := HZ.out
      have hwz := hs.out.size
      by_cases hlt : k < n
      · obtain ⟨x, hx⟩ := get_some (xs := xs.tail) (k := k) (by rw [List.length_tail, ← HN.out]; exact hlt)
        have HT : Hid (xs.tail.take (k + 1) = xs.tail.take k ++ [x]) := Lib.hid (take_snoc hx)
        have hxl := HX.out x (List.mem_of_mem_tail (List.mem_of_getElem? hx))
        obtain ⟨b', o', hbo, hbb, cx⟩ := rt.bs (bs_get hx)
        cases hbo
        have cx : wo.cell? ⟨b0, 1 + k, none⟩ = some (.string (str x)) := by
          rw [← cx]
          unfold World.cell?
          simp only
          rw [HK.out]
        have hbb2 : b0 < wo.heap.size := by omega
        have i2 : (0 : Int) ≤ (k : Int) := by omega
        have i3 : (k : Int) < (n : Int) := by omega
        clear hx
        go_wp2_with fail
        refine (Tryd.slices_Index_string wo.heap.size 0 3 3 [str onT, str noT, str yesT] (str x) _ (by decide) (by decide) (fun j hj => by
          have hj : j < 3 := hj
          rw [Nat.zero_add]
          exact new_cells (by rfl) j _ (by rcases j with _ | _ | _ | j <;> first | rfl | omega))).mono ?_
        rintro e _ ⟨rfl, rfl⟩
        have hix : Hid (Lib.idxOfS (List.take 3 [str onT, str noT, str yesT]) (str x) = idxE x) := Lib.hid rfl
        rw [hix.out]
        obtain ⟨J, hJ⟩ : ∃ J, J = idxE x := ⟨_, rfl⟩
        have hJ0 := (idxE_bound x).1
        have hJ1 := (idxE_bound x).2
        rw [← hJ] at hJ0 hJ1 ⊢
        have HJ := Lib.hid hJ
        clear hJ
        have hJw : IntKind.i64.wrap (J - 3) = J - 3 := by rw [IntKind.wrap_i64]; omega
        have hJw2 : wrap64 (J - 3) = J - 3 := by unfold wrap64; omega
        by_cases h62 : x[0]? = some 62
        · have P60 : Hid (Lib.hasPrefix (str x).data.toList (⟨#[60]⟩ : ByteArray).data.toList = false) := Lib.hid (by rw [pre_one, h62]; decide)
          have P62 : Hid (Lib.hasPrefix (str x).data.toList (⟨#[62]⟩ : ByteArray).data.toList = true) := Lib.hid (by rw [pre_one, h62]; decide)
          obtain ⟨V, hV⟩ : ∃ V, V = numI x.tail := ⟨_, rfl⟩
          have HV : Hid (exI x = (1, V)) := Lib.hid (by unfold exI; rw [hV, h62]; rfl)
          have x2 : ∀ W, (Instr.slice 9 (.string (str x)) (some (.int .i64 1)) none none).run Tryd.prog W = .ok (.string (str x.tail)) W := fun W => by rw [← List.drop_one]; exact sl_from (P := Tryd.prog) Tryd.underlying9 (l := x) (i := 1) (List.getElem?_eq_some_iff.1 h62).1 W
          have hNV := Lib.hid (fun W hW => number_impl x.tail W hW (by rw [List.length_tail]; omega))
          rw [← hV] at hNV
          clear h62 hV
          go_wp2_with fail
          refine (Tryd.strings_HasPrefix (str x) ⟨#[60]⟩ _).mono ?_
          rintro e _ ⟨rfl, rfl⟩
          rw [P60.out]
          go_wp2_with fail
          refine (Tryd.strings_HasPrefix (str x) ⟨#[62]⟩ _).mono ?_
          rintro e _ ⟨rfl, rfl⟩
          rw [P62.out]
          go_wp2_with fail
          refine (hNV.out _ (HE.out.up (by repeat (first | exact Below.refl _ _ | exact Since.out (by assumption) | refine Below.alloc ?_ (by first | omega | (simp only [sz_alloc, sz_set, sz_drew, sz_drewN]; omega) | (simp only [sz_alloc, sz_set, sz_drew, sz_drewN] at *; omega)) _ | refine Below.setCell ?_ (by first | omega | (simp only [sz_alloc, sz_set, sz_drew, sz_drewN]; omega) | (simp only [sz_alloc, sz_set, sz_drew, sz_drewN] at *; omega)) _ | refine Below.drew ?_ | refine below_drewN_ ?_ _)))).mono ?_
          rintro e w4 ⟨rfl, hb4⟩
          have HBw4 : Since wo w4 := ⟨below_cat (by repeat (first | exact Below.refl _ _ | exact Since.out (by assumption) | refine Below.alloc ?_ (by first | omega | (simp only [sz_alloc, sz_set, sz_drew, sz_drewN]; omega) | (simp only [sz_alloc, sz_set, sz_drew, sz_drewN] at *; omega)) _ | refine Below.setCell ?_ (by first | omega | (simp only [sz_alloc, sz_set, sz_drew, sz_drewN]; omega) | (simp only [sz_alloc, sz_set, sz_drew, sz_drewN] at *; omega)) _ | refine Below.drew ?_ | refine below_drewN_ ?_ _)) hb4 (by first | omega | (simp only [sz_alloc, sz_set, sz_drew, sz_drewN]; omega) | (simp only [sz_alloc, sz_set, sz_drew, sz_drewN] at *; omega))⟩; have hzw4 := hb4.size; (try simp only [sz_alloc, sz_set, sz_drew, sz_drewN] at hzw4); have hcw4k0 := fun o => hb4.cell (p := ⟨wo.heap.size, o, none⟩) (by first | omega | (simp only [sz_alloc, sz_set, sz_drew, sz_drewN]; omega) | (simp only [sz_alloc, sz_set, sz_drew, sz_drewN] at *; omega)); have hfw4k0 := fun o => hb4.frozen (p := ⟨wo.heap.size, o, none⟩) (by first | omega | (simp only [sz_alloc, sz_set, sz_drew, sz_drewN]; omega) | (simp only [sz_alloc, sz_set, sz_drew, sz_drewN] at *; omega)); have hlw4k0 : wo.heap.size < w4.heap.size := (by first | omega | (simp only [sz_alloc, sz_set, sz_drew, sz_drewN]; omega) | (simp only [sz_alloc, sz_set, sz_drew, sz_drewN] at *; omega)); have hcw4k1 := fun o => hb4.cell (p := ⟨wo.heap.size + 1, o, none⟩) (by first | omega | (simp only [sz_alloc, sz_set, sz_drew, sz_drewN]; omega) | (simp only [sz_alloc, sz_set, sz_drew, sz_drewN] at *; omega)); have hfw4k1 := fun o => hb4.frozen (p := ⟨wo.heap.size + 1, o, none⟩) (by first | omega | (simp only [sz_alloc, sz_set, sz_drew, sz_drewN]; omega) | (simp only [sz_alloc, sz_set, sz_drew, sz_drewN] at *; omega)); have hlw4k1 : wo.heap.size + 1 < w4.heap.size := (by first | omega | (simp only [sz_alloc, sz_set, sz_drew, sz_drewN]; omega) | (simp only [sz_alloc, sz_set, sz_drew, sz_drewN] at *; omega))
          have HBw : Since w w4 := ⟨hs.out.trans (HBw4.out.mono hwz)⟩
          go_wp2_with (at_builtin; refine wpList_push (α := Int × Int) _ (by rfl) (.tmp 33) (.tmp 35) 22 (by rfl) w.heap.size 135 (.agg #[.int .i64 0, .int .i64 0]) 16 Tryd.underlying22 infoExit rfl D k m _ [] (by rfl) (HA.out.below (C := wo.heap.size) (by repeat (first | exact Below.refl _ _ | exact Since.out (by assumption) | refine Below.alloc ?_ (by first | omega | (simp only [sz_alloc, sz_set, sz_drew, sz_drewN]; omega) | (simp only [sz_alloc, sz_set, sz_drew, sz_drewN] at *; omega)) _ | refine Below.setCell ?_ (by first | omega | (simp only [sz_alloc, sz_set, sz_drew, sz_drewN]; omega) | (simp only [sz_alloc, sz_set, sz_drew, sz_drewN] at *; omega)) _ | refine Below.drew ?_ | refine below_drewN_ ?_ _)) (Nat.le_refl _)) (w4.heap.size) 1 (by rfl) (1, V) [.int .i64 (1), .int .i64 (V)] [] ⟨rfl, rfl⟩ (new_cells (by first | rfl | simp [sz_set])) (fun u hu => by (simp at hu; rcases hu with rfl | rfl <;> rfl)) ⟨List.nodup_nil, fun g hg => by simp at hg⟩ (fun g hg => by simp at hg) (by omega) (by omega) (by first | omega | (simp only [sz_alloc, sz_set, sz_drew, sz_drewN]; omega) | (simp only [sz_alloc, sz_set, sz_drew, sz_drewN] at *; omega)) ?_
                       intro D2 d2 w5 hacc hgr hnew
                       have HS5 : Since w w5 := ⟨Acc.since (HA.out.below (C := wo.heap.size) (by repeat (first | exact Below.refl _ _ | exact Since.out (by assumption) | refine Below.alloc ?_ (by first | omega | (simp only [sz_alloc, sz_set, sz_drew, sz_drewN]; omega) | (simp only [sz_alloc, sz_set, sz_drew, sz_drewN] at *; omega)) _ | refine Below.setCell ?_ (by first | omega | (simp only [sz_alloc, sz_set, sz_drew, sz_drewN]; omega) | (simp only [sz_alloc, sz_set, sz_drew, sz_drewN] at *; omega)) _ | refine Below.drew ?_ | refine below_drewN_ ?_ _)) (Nat.le_refl _)) hgr (by repeat (first | exact Below.refl _ _ | exact Since.out (by assumption) | refine Below.alloc ?_ (by first | omega | (simp only [sz_alloc, sz_set, sz_drew, sz_drewN]; omega) | (simp only [sz_alloc, sz_set, sz_drew, sz_drewN] at *; omega)) _ | refine Below.setCell ?_ (by first | omega | (simp only [sz_alloc, sz_set, sz_drew, sz_drewN]; omega) | (simp only [sz_alloc, sz_set, sz_drew, sz_drewN] at *; omega)) _ | refine Below.drew ?_ | refine below_drewN_ ?_ _)) (Nat.le_refl _) (by first | omega | (simp only [sz_alloc, sz_set, sz_drew, sz_drewN]; omega) | (simp only [sz_alloc, sz_set, sz_drew, sz_drewN] at *; omega))⟩
                       have HA5 := Lib.hid hacc
                       have HK5 : Hid (w5.heap[b0]? = w1.heap[b0]?) := Lib.hid ((grown_block hgr (k := b0) (by first | omega | (simp only [sz_alloc, sz_set, sz_drew, sz_drewN]; omega) | (simp only [sz_alloc, sz_set, sz_drew, sz_drewN] at *; omega)) HD.out).trans (Eq.trans (Below.block (B := wo.heap.size) (by repeat (first | exact Below.refl _ _ | exact Since.out (by assumption) | refine Below.alloc ?_ (by first | omega | (simp only [sz_alloc, sz_set, sz_drew, sz_drewN]; omega) | (simp only [sz_alloc, sz_set, sz_drew, sz_drewN] at *; omega)) _ | refine Below.setCell ?_ (by first | omega | (simp only [sz_alloc, sz_set, sz_drew, sz_drewN]; omega) | (simp only [sz_alloc, sz_set, sz_drew, sz_drewN] at *; omega)) _ | refine Below.drew ?_ | refine below_drewN_ ?_ _)) _ hbb2) HK.out))
                       have HD5 : Hid (∀ a, D2 = some a → a.block ≠ b0) := Lib.hid (fun a ha => by rcases hnew a ha with h | h; exact HD.out a h; intro e; rw [e] at h; have h2 : wo.heap.size ≤ b0 := Nat.le_trans (Below.size (B := wo.heap.size) (by repeat (first | exact Below.refl _ _ | exact Since.out (by assumption) | refine Below.alloc ?_ (by first | omega | (simp only [sz_alloc, sz_set, sz_drew, sz_drewN]; omega) | (simp only [sz_alloc, sz_set, sz_drew, sz_drewN] at *; omega)) _ | refine Below.setCell ?_ (by first | omega | (simp only [sz_alloc, sz_set, sz_drew, sz_drewN]; omega) | (simp only [sz_alloc, sz_set, sz_drew, sz_drewN] at *; omega)) _ | refine Below.drew ?_ | refine below_drewN_ ?_ _))) h; omega)
                       have HZ5 : Hid (w1.heap.size ≤ w5.heap.size) := Lib.hid (Nat.le_trans (Nat.le_trans hzo (by first | omega | (simp only [sz_alloc, sz_set, sz_drew, sz_drewN]; omega) | (simp only [sz_alloc, sz_set, sz_drew, sz_drewN] at *; omega))) hgr.size)
                       clear hacc hgr hnew)
          go_roundw
          case rel => exact ⟨k + 1, D2, d2, by omega, by first | rfl | simp, by go_num, Lib.hid (by rw [HT.out, List.map_append, List.map_singleton, HV.out]; exact HA5.out), HK5, HD5, HZ5, HS5⟩
          case measure => simp [intOf]; omega
        by_cases h60 : x[0]? = some 60
        · have P62 : Hid (Lib.hasPrefix (str x).data.toList (⟨#[62]⟩ : ByteArray).data.toList = false) := Lib.hid (by rw [pre_one, h60]; decide)
          have P60 : Hid (Lib.hasPrefix (str x).data.toList (⟨#[60]⟩ : ByteArray).data.toList = true) := Lib.hid (by rw [pre_one, h60]; decide)
          obtain ⟨V, hV⟩ : ∃ V, V = numI x.tail := ⟨_, rfl⟩
          have HV : Hid (exI x = (-1, V)) := Lib.hid (by unfold exI; rw [hV, h60]; rfl)
          have x2 : ∀ W, (Instr.slice 9 (.string (str x)) (some (.int .i64 1)) none none).run Tryd.prog W = .ok (.string (str x.tail)) W := fun W => by rw [← List.drop_one]; exact sl_from (P := Tryd.prog) Tryd.underlying9 (l := x) (i := 1) (List.getElem?_eq_some_iff.1 h60).1 W
          have hNV := Lib.hid (fun W hW => number_impl x.tail W hW (by rw [List.length_tail]; omega))
          rw [← hV] at hNV
          clear h60 hV
          go_wp2_with fail
          refine (Tryd.strings_HasPrefix (str x) ⟨#[60]⟩ _).mono ?_
          rintro e _ ⟨rfl, rfl⟩
          rw [P60.out]
          go_wp2_with fail
          refine (hNV.out _ (HE.out.up (by repeat (first | exact Below.refl _ _ | exact Since.out (by assumption) | refine Below.alloc ?_ (by first | omega | (simp only [sz_alloc, sz_set, sz_drew, sz_drewN]; omega) | (simp only [sz_alloc, sz_set, sz_drew, sz_drewN] at *; omega)) _ | refine Below.setCell ?_ (by first | omega | (simp only [sz_alloc, sz_set, sz_drew, sz_drewN]; omega) | (simp only [sz_alloc, sz_set, sz_drew, sz_drewN] at *; omega)) _ | refine Below.drew ?_ | refine below_drewN_ ?_ _)))).mono ?_
          rintro e w4 ⟨rfl, hb4⟩
          have HBw4 : Since wo w4 := ⟨below_cat (by repeat (first | exact Below.refl _ _ | exact Since.out (by assumption) | refine Below.alloc ?_ (by first | omega | (simp only [sz_alloc, sz_set, sz_drew, sz_drewN]; omega) | (simp only [sz_alloc, sz_set, sz_drew, sz_drewN] at *; omega)) _ | refine Below.setCell ?_ (by first | omega | (simp only [sz_alloc, sz_set, sz_drew, sz_drewN]; omega) | (simp only [sz_alloc, sz_set, sz_drew, sz_drewN] at *; omega)) _ | refine Below.drew ?_ | refine below_drewN_ ?_ _)) hb4 (by first | omega | (simp only [sz_alloc, sz_set, sz_drew, sz_drewN]; omega) | (simp only [sz_alloc, sz_set, sz_drew, sz_drewN] at *; omega))⟩; have hzw4 := hb4.size; (try simp only [sz_alloc, sz_set, sz_drew, sz_drewN] at hzw4); have hcw4k0 := fun o => hb4.cell (p := ⟨wo.heap.size, o, none⟩) (by first | omega | (simp only [sz_alloc, sz_set, sz_drew, sz_drewN]; omega) | (simp only [sz_alloc, sz_set, sz_drew, sz_drewN] at *; omega)); have hfw4k0 := fun o => hb4.frozen (p := ⟨wo.heap.size, o, none⟩) (by first | omega | (simp only [sz_alloc, sz_set, sz_drew, sz_drewN]; omega) | (simp only [sz_alloc, sz_set, sz_drew, sz_drewN] at *; omega)); have hlw4k0 : wo.heap.size < w4.heap.size := (by first | omega | (simp only [sz_alloc, sz_set, sz_drew, sz_drewN]; omega) | (simp only [sz_alloc, sz_set, sz_drew, sz_drewN] at *; omega)); have hcw4k1 := fun o => hb4.cell (p := ⟨wo.heap.size + 1, o, none⟩) (by first | omega | (simp only [sz_alloc, sz_set, sz_drew, sz_drewN]; omega) | (simp only [sz_alloc, sz_set, sz_drew, sz_drewN] at *; omega)); have hfw4k1 := fun o => hb4.frozen (p := ⟨wo.heap.size + 1, o, none⟩) (by first | omega | (simp only [sz_alloc, sz_set, sz_drew, sz_drewN]; omega) | (simp only [sz_alloc, sz_set, sz_drew, sz_drewN] at *; omega)); have hlw4k1 : wo.heap.size + 1 < w4.heap.size := (by first | omega | (simp only [sz_alloc, sz_set, sz_drew, sz_drewN]; omega) | (simp only [sz_alloc, sz_set, sz_drew, sz_drewN] at *; omega))
          have HBw : Since w w4 := ⟨hs.out.trans (HBw4.out.mono hwz)⟩
          go_wp2_with fail
          refine (Tryd.strings_HasPrefix (str x) ⟨#[62]⟩ _).mono ?_
          rintro e _ ⟨rfl, rfl⟩
          rw [P62.out]
          go_wp2_with (at_builtin; refine wpList_push (α := Int × Int) _ (by rfl) (.tmp 33) (.tmp 35) 22 (by rfl) w.heap.size 135 (.agg #[.int .i64 0, .int .i64 0]) 16 Tryd.underlying22 infoExit rfl D k m _ [] (by rfl) (HA.out.below (C := wo.heap.size) (by repeat (first | exact Below.refl _ _ | exact Since.out (by assumption) | refine Below.alloc ?_ (by first | omega | (simp only [sz_alloc, sz_set, sz_drew, sz_drewN]; omega) | (simp only [sz_alloc, sz_set, sz_drew, sz_drewN] at *; omega)) _ | refine Below.setCell ?_ (by first | omega | (simp only [sz_alloc, sz_set, sz_drew, sz_drewN]; omega) | (simp only [sz_alloc, sz_set, sz_drew, sz_drewN] at *; omega)) _ | refine Below.drew ?_ | refine below_drewN_ ?_ _)) (Nat.le_refl _)) (w4.heap.size) 1 (by rfl) (-1, V) [.int .i64 (-1), .int .i64 (V)] [] ⟨rfl, rfl⟩ (new_cells (by first | rfl | simp [sz_set])) (fun u hu => by (simp at hu; rcases hu with rfl | rfl <;> rfl)) ⟨List.nodup_nil, fun g hg => by simp at hg⟩ (fun g hg => by simp at hg) (by omega) (by omega) (by first | omega | (simp only [sz_alloc, sz_set, sz_drew, sz_drewN]; omega) | (simp only [sz_alloc, sz_set, sz_drew, sz_drewN] at *; omega)) ?_
                       intro D2 d2 w5 hacc hgr hnew
                       have HS5 : Since w w5 := ⟨Acc.since (HA.out.below (C := wo.heap.size) (by repeat (first | exact Below.refl _ _ | exact Since.out (by assumption) | refine Below.alloc ?_ (by first | omega | (simp only [sz_alloc, sz_set, sz_drew, sz_drewN]; omega) | (simp only [sz_alloc, sz_set, sz_drew, sz_drewN] at *; omega)) _ | refine Below.setCell ?_ (by first | omega | (simp only [sz_alloc, sz_set, sz_drew, sz_drewN]; omega) | (simp only [sz_alloc, sz_set, sz_drew, sz_drewN] at *; omega)) _ | refine Below.drew ?_ | refine below_drewN_ ?_ _)) (Nat.le_refl _)) hgr (by repeat (first | exact Below.refl _ _ | exact Since.out (by assumption) | refine Below.alloc ?_ (by first | omega | (simp only [sz_alloc, sz_set, sz_drew, sz_drewN]; omega) | (simp only [sz_alloc, sz_set, sz_drew, sz_drewN] at *; omega)) _ | refine Below.setCell ?_ (by first | omega | (simp only [sz_alloc, sz_set, sz_drew, sz_drewN]; omega) | (simp only [sz_alloc, sz_set, sz_drew, sz_drewN] at *; omega)) _ | refine Below.drew ?_ | refine below_drewN_ ?_ _)) (Nat.le_refl _) (by first | omega | (simp only [sz_alloc, sz_set, sz_drew, sz_drewN]; omega) | (simp only [sz_alloc, sz_set, sz_drew, sz_drewN] at *; omega))⟩
                       have HA5 := Lib.hid hacc
                       have HK5 : Hid (w5.heap[b0]? = w1.heap[b0]?) := Lib.hid ((grown_block hgr (k := b0) (by first | omega | (simp only [sz_alloc, sz_set, sz_drew, sz_drewN]; omega) | (simp only [sz_alloc, sz_set, sz_drew, sz_drewN] at *; omega)) HD.out).trans (Eq.trans (Below.block (B := wo.heap.size) (by repeat (first | exact Below.refl _ _ | exact Since.out (by assumption) | refine Below.alloc ?_ (by first | omega | (simp only [sz_alloc, sz_set, sz_drew, sz_drewN]; omega) | (simp only [sz_alloc, sz_set, sz_drew, sz_drewN] at *; omega)) _ | refine Below.setCell ?_ (by first | omega | (simp only [sz_alloc, sz_set, sz_drew, sz_drewN]; omega) | (simp only [sz_alloc, sz_set, sz_drew, sz_drewN] at *; omega)) _ | refine Below.drew ?_ | refine below_drewN_ ?_ _)) _ hbb2) HK.out))
                       have HD5 : Hid (∀ a, D2 = some a → a.block ≠ b0) := Lib.hid (fun a ha => by rcases hnew a ha with h | h; exact HD.out a h; intro e; rw [e] at h; have h2 : wo.heap.size ≤ b0 := Nat.le_trans (Below.size (B := wo.heap.size) (by repeat (first | exact Below.refl _ _ | exact Since.out (by assumption) | refine Below.alloc ?_ (by first | omega | (simp only [sz_alloc, sz_set, sz_drew, sz_drewN]; omega) | (simp only [sz_alloc, sz_set, sz_drew, sz_drewN] at *; omega)) _ | refine Below.setCell ?_ (by first | omega | (simp only [sz_alloc, sz_set, sz_drew, sz_drewN]; omega) | (simp only [sz_alloc, sz_set, sz_drew, sz_drewN] at *; omega)) _ | refine Below.drew ?_ | refine below_drewN_ ?_ _))) h; omega)
                       have HZ5 : Hid (w1.heap.size ≤ w5.heap.size) := Lib.hid (Nat.le_trans (Nat.le_trans hzo (by first | omega | (simp only [sz_alloc, sz_set, sz_drew, sz_drewN]; omega) | (simp only [sz_alloc, sz_set, sz_drew, sz_drewN] at *; omega))) hgr.size)
                       clear hacc hgr hnew)
          go_roundw
          case rel => exact ⟨k + 1, D2, d2, by omega, by first | rfl | simp, by go_num, Lib.hid (by rw [HT.out, List.map_append, List.map_singleton, HV.out]; exact HA5.out), HK5, HD5, HZ5, HS5⟩
          case measure => simp [intOf]; omega
        have P60 : Hid (Lib.hasPrefix (str x).data.toList (⟨#[60]⟩ : ByteArray).data.toList = false) := Lib.hid (by rw [pre_one]; exact decide_eq_false h60)
        have P62 : Hid (Lib.hasPrefix (str x).data.toList (⟨#[62]⟩ : ByteArray).data.toList = false) := Lib.hid (by rw [pre_one]; exact decide_eq_false h62)
        have HV : Hid (exI x = (0, J - 3)) := Lib.hid (by unfold exI; rw [if_neg h62, if_neg h60, HJ.out])
        clear h60 h62
        go_wp2_with fail
        refine (Tryd.strings_HasPrefix (str x) ⟨#[60]⟩ _).mono ?_
        rintro e _ ⟨rfl, rfl⟩
        rw [P60.out]
        go_wp2_with fail
        refine (Tryd.strings_HasPrefix (str x) ⟨#[62]⟩ _).mono ?_
        rintro e _ ⟨rfl, rfl⟩
        rw [P62.out]
        go_wp2_with (at_builtin; refine wpList_push (α := Int × Int) _ (by rfl) (.tmp 33) (.tmp 35) 22 (by rfl) w.heap.size 135 (.agg #[.int .i64 0, .int .i64 0]) 16 Tryd.underlying22 infoExit rfl D k m _ [] (by rfl) (HA.out.below (C := wo.heap.size) (by repeat (first | exact Below.refl _ _ | exact Since.out (by assumption) | refine Below.alloc ?_ (by first | omega | (simp only [sz_alloc, sz_set, sz_drew, sz_drewN]; omega) | (simp only [sz_alloc, sz_set, sz_drew, sz_drewN] at *; omega)) _ | refine Below.setCell ?_ (by first | omega | (simp only [sz_alloc, sz_set, sz_drew, sz_drewN]; omega) | (simp only [sz_alloc, sz_set, sz_drew, sz_drewN] at *; omega)) _ | refine Below.drew ?_ | refine below_drewN_ ?_ _)) (Nat.le_refl _)) (wo.heap.size + 2) 1 (by rfl) (0, J - 3) [.int .i64 (0), .int .i64 (J - 3)] [] ⟨rfl, rfl⟩ (new_cells (by first | rfl | simp [sz_set])) (fun u hu => by (simp at hu; rcases hu with rfl | rfl <;> rfl)) ⟨List.nodup_nil, fun g hg => by simp at hg⟩ (fun g hg => by simp at hg) (by omega) (by omega) (by first | omega | (simp only [sz_alloc, sz_set, sz_drew, sz_drewN]; omega) | (simp only [sz_alloc, sz_set, sz_drew, sz_drewN] at *; omega)) ?_
                     intro D2 d2 w5 hacc hgr hnew
                     have HS5 : Since w w5 := ⟨Acc.since (HA.out.below (C := wo.heap.size) (by repeat (first | exact Below.refl _ _ | exact Since.out (by assumption) | refine Below.alloc ?_ (by first | omega | (simp only [sz_alloc, sz_set, sz_drew, sz_drewN]; omega) | (simp only [sz_alloc, sz_set, sz_drew, sz_drewN] at *; omega)) _ | refine Below.setCell ?_ (by first | omega | (simp only [sz_alloc, sz_set, sz_drew, sz_drewN]; omega) | (simp only [sz_alloc, sz_set, sz_drew, sz_drewN] at *; omega)) _ | refine Below.drew ?_ | refine below_drewN_ ?_ _)) (Nat.le_refl _)) hgr (by repeat (first | exact Below.refl _ _ | exact Since.out (by assumption) | refine Below.alloc ?_ (by first | omega | (simp only [sz_alloc, sz_set, sz_drew, sz_drewN]; omega) | (simp only [sz_alloc, sz_set, sz_drew, sz_drewN] at *; omega)) _ | refine Below.setCell ?_ (by first | omega | (simp only [sz_alloc, sz_set, sz_drew, sz_drewN]; omega) | (simp only [sz_alloc, sz_set, sz_drew, sz_drewN] at *; omega)) _ | refine Below.drew ?_ | refine below_drewN_ ?_ _)) (Nat.le_refl _) (by first | omega | (simp only [sz_alloc, sz_set, sz_drew, sz_drewN]; omega) | (simp only [sz_alloc, sz_set, sz_drew, sz_drewN] at *; omega))⟩
                     have HA5 := Lib.hid hacc
                     have HK5 : Hid (w5.heap[b0]? = w1.heap[b0]?) := Lib.hid ((grown_block hgr (k := b0) (by first | omega | (simp only [sz_alloc, sz_set, sz_drew, sz_drewN]; omega) | (simp only [sz_alloc, sz_set, sz_drew, sz_drewN] at *; omega)) HD.out).trans (Eq.trans (Below.block (B := wo.heap.size) (by repeat (first | exact Below.refl _ _ | exact Since.out (by assumption) | refine Below.alloc ?_ (by first | omega | (simp only [sz_alloc, sz_set, sz_drew, sz_drewN]; omega) | (simp only [sz_alloc, sz_set, sz_drew, sz_drewN] at *; omega)) _ | refine Below.setCell ?_ (by first | omega | (simp only [sz_alloc, sz_set, sz_drew, sz_drewN]; omega) | (simp only [sz_alloc, sz_set, sz_drew, sz_drewN] at *; omega)) _ | refine Below.drew ?_ | refine below_drewN_ ?_ _)) _ hbb2) HK.out))
                     have HD5 : Hid (∀ a, D2 = some a → a.block ≠ b0) := Lib.hid (fun a ha => by rcases hnew a ha with h | h; exact HD.out a h; intro e; rw [e] at h; have h2 : wo.heap.size ≤ b0 := Nat.le_trans (Below.size (B := wo.heap.size) (by repeat (first | exact Below.refl _ _ | exact Since.out (by assumption) | refine Below.alloc ?_ (by first | omega | (simp only [sz_alloc, sz_set, sz_drew, sz_drewN]; omega) | (simp only [sz_alloc, sz_set, sz_drew, sz_drewN] at *; omega)) _ | refine Below.setCell ?_ (by first | omega | (simp only [sz_alloc, sz_set, sz_drew, sz_drewN]; omega) | (simp only [sz_alloc, sz_set, sz_drew, sz_drewN] at *; omega)) _ | refine Below.drew ?_ | refine below_drewN_ ?_ _))) h; omega)
                     have HZ5 : Hid (w1.heap.size ≤ w5.heap.size) := Lib.hid (Nat.le_trans (Nat.le_trans hzo (by first | omega | (simp only [sz_alloc, sz_set, sz_drew, sz_drewN]; omega) | (simp only [sz_alloc, sz_set, sz_drew, sz_drewN] at *; omega))) hgr.size)
                     clear hacc hgr hnew)
        go_roundw
        case rel => exact ⟨k + 1, D2, d2, by omega, by first | rfl | simp, by go_num, Lib.hid (by rw [HT.out, List.map_append, List.map_singleton, HV.out]; exact HA5.out), HK5, HD5, HZ5, HS5⟩
        case measure => simp [intOf]; omega
      · obtain rfl : k = n := by omega
        have ht : Hid (xs.tail.take k = xs.tail) := Lib.hid (by apply List.take_of_length_le; rw [List.length_tail, ← HN.out]; exact Nat.le_refl _)
        go_wp2
        go_ret
        have ha := HA.out
        rw [ht.out] at ha
        exact exI_end ha HR.out.symm hs.out
end Go.Proofs.YtelmooaenodfaaaDoor
