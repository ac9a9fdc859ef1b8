/-
  The words of the first line and the other lines, as the program takes them. Conditions: those in each statement.
-/
import Derived.Test.YtelmooaenodfaaaDoorRrLaw
import Derived.Test.YtelmooaenodfaaaDoorCat
set_option linter.unusedVariables false
set_option linter.unusedSimpArgs false
set_option maxRecDepth 100000
set_option maxHeartbeats 1000000
namespace Go.Proofs.YtelmooaenodfaaaDoor
open Go.RowKit

theorem Els_bs {w : World} : ∀ xs : List (List UInt8), Els w (xs.map Bs.mk) ((xs.map str).map Value.string) []
  | [] => ⟨rfl, rfl⟩
  | x :: xs => ⟨[.string (str x)], (xs.map str).map Value.string, [], [], rfl, rfl, ⟨rfl, rfl⟩, Els_bs xs⟩
/-- strings.Split: what it makes can be appended to. -/
theorem split_acc (l : List UInt8) (c : UInt8) (w : World) (hE : Env w) (hl : l.length ≤ 1048576) :
    Calls Tryd.prog 58 #[.string (str l), .string ⟨#[c]⟩] w fun e w' => ∃ b, e = .returned (.slice (some ⟨b, 0, none⟩) (splitL c l).length (splitL c l).length) ∧ Acc w' w.heap.size 9 (some ⟨b, 0, none⟩) (splitL c l).length (splitL c l).length ((splitL c l).map Bs.mk) [] ∧ Below w.heap.size w w' := by
  obtain ⟨m, hm⟩ := hE.max
  refine (Tryd.strings_Split (str l) ⟨#[c]⟩ m w (by rw [str_size]; omega) hm (Nat.le_refl 1)).mono ?_
  rintro e w' ⟨rfl, rfl⟩
  have hn := splitL_len c l
  rw [splitB_L, splitB_n]
  refine ⟨w.heap.size, rfl, ⟨by simp, ⟨((splitL c l).map str).map Value.string, ⟨by simp [Cod.size], .inr ⟨w.heap.size, _, _, rfl, Nat.le_refl _, new_block rfl, Nat.le_refl _, by simp only [maxLen]; omega, by simp [Cod.size], ?_⟩⟩, Els_bs _⟩, ⟨List.nodup_nil, fun g hg => by simp at hg⟩, fun a h => by simp⟩, (Below.refl _ _).alloc (Nat.le_refl _) _⟩
  apply List.take_of_length_le
  simp [Cod.size]

def pad4 (xs : List (List UInt8)) : List (List UInt8) := xs ++ List.replicate (4 - xs.length) []
theorem pad4_len (xs : List (List UInt8)) : 4 ≤ (pad4 xs).length := by
  unfold pad4
  rw [List.length_append, List.length_replicate]
  omega
theorem pad4_get (xs : List (List UInt8)) (k : Nat) : (pad4 xs).getD k [] = xs.getD k [] := by
  unfold pad4
  rw [List.getD_eq_getElem?_getD, List.getD_eq_getElem?_getD, List.getElem?_append]
  split
  · rfl
  · rename_i h
    rw [List.getElem?_eq_none (l := xs) (by omega), List.getElem?_replicate]
    split <;> rfl
theorem pad4_snoc {xs : List (List UInt8)} {k : Nat} (h : xs.length ≤ k) : xs ++ List.replicate (k + 1 - xs.length) ([] : List UInt8) = (xs ++ List.replicate (k - xs.length) []) ++ [[]] := by
  rw [show k + 1 - xs.length = (k - xs.length) + 1 by omega, List.replicate_succ', List.append_assoc]
def RetHead (hd tl : List (List UInt8)) (w : World) (e : Ending) (w' : World) : Prop :=
  ∃ A c A' c', e = .returned (.tuple #[.slice A hd.length c, .slice A' tl.length c']) ∧ RdS w' w'.heap.size A (hd.map Bs.mk) ∧ RdS w' w'.heap.size A' (tl.map Bs.mk) ∧ Below w.heap.size w w'

set_option maxHeartbeats 8000000 in
theorem headOf_impl (l : List UInt8) (w : World) (hE : Env w) (hl : l.length ≤ 1048576) :
    Calls Tryd.prog 56 #[.string (str l), .int .i64 4] w (RetHead (pad4 (hdOf (docI l))) (docI l).tail w) := by
  have HE := Lib.hid hE
  clear hE
  have htl : (Lib.trimSuffix l [10]).length ≤ l.length := Lib.trimSuffix_le l [10]
  have HT : Hid (∀ W : World, Calls Tryd.prog 48 #[.string (str l), .string ⟨#[10]⟩] W fun e w' => e = .returned (.string (str (Lib.trimSuffix l [10]))) ∧ w' = W) := Lib.hid (fun W => (Tryd.strings_TrimSuffix (str l) ⟨#[10]⟩ W (by rw [str_size]; omega)).mono fun e w' h => h)
  obtain ⟨tr, htr⟩ : ∃ tr, tr = Lib.trimSuffix l [10] := ⟨_, rfl⟩
  have hdoc : docI l = splitL 10 tr := by rw [htr]; rfl
  rw [← htr] at htl HT
  rw [hdoc]
  clear htr hdoc
  have HC := Lib.hid (fun W hW => split_impl2 tr 10 W hW (by omega))
  have hlen := splitL_len 10 tr
  have hne := splitL_ne 10 tr
  have hin : ∀ x ∈ splitL 10 tr, x.length ≤ tr.length := splitL_in 10 tr
  obtain ⟨ls, hls⟩ : ∃ ls, ls = splitL 10 tr := ⟨_, rfl⟩
  rw [← hls] at HC hlen hne hin ⊢
  clear hls
  cases ls with
  | nil => exact absurd rfl hne
  | cons l0 ls =>
    have h0l := hin l0 (List.mem_cons_self ..)
    clear hin hne
    have hh : hdOf (l0 :: ls) = splitL 32 l0 := rfl
    rw [hh, List.tail_cons]
    clear hh
    have HD := Lib.hid (fun W hW => split_acc l0 32 W hW (by omega))
    have hdl := splitL_len 32 l0
    obtain ⟨hd, hhd⟩ : ∃ hd, hd = splitL 32 l0 := ⟨_, rfl⟩
    rw [← hhd] at HD hdl ⊢
    clear hhd
    obtain ⟨n, hn⟩ : ∃ n, n = ls.length := ⟨_, rfl⟩
    obtain ⟨p, hp⟩ : ∃ p, p = hd.length := ⟨_, rfl⟩
    rw [List.length_cons, ← hn] at hlen
    rw [← hp] at hdl HD
    have HP := Lib.hid hp
    have HNL := Lib.hid hn
    have HC : Hid (∀ W, Env W → Calls Tryd.prog 58 #[.string (str tr), .string ⟨#[10]⟩] W fun e w' => ∃ b, e = .returned (.slice (some ⟨b, 0, none⟩) (n + 1) (n + 1)) ∧ RdS w' w'.heap.size (some ⟨b, 0, none⟩) ((l0 :: ls).map Bs.mk) ∧ W.heap.size ≤ b ∧ b < w'.heap.size ∧ Below W.heap.size W w') := Lib.hid (fun W hW => (HC.out W hW).mono fun e w' ⟨b, h1, h2⟩ => ⟨b, by rw [hn]; exact h1, h2⟩)
    clear hp hn
    go_enter Tryd.func56, Tryd.ntmps56
    go_wp2_with fail
    refine (HT.out _).mono ?_
    rintro e wz ⟨rfl, hwz⟩
    have hwz := hwz.symm
    subst hwz
    go_wp2_with fail
    refine (HC.out _ HE.out).mono ?_
    rintro e w1 ⟨b, rfl, r, -, hbb, hb1⟩
    have HB1 : Since w w1 := ⟨hb1⟩
    have hz1 := hb1.size
    obtain ⟨g', o', e', _, c0⟩ := r.bs (bs_get (k := 0) (x := l0) rfl)
    cases e'
    rw [Nat.add_zero] at c0
    go_wp2_with fail
    refine (HD.out _ (HE.out.up hb1)).mono ?_
    rintro e w2 ⟨b2, rfl, ha, hb2⟩
    have HB2 : Since w1 w2 := ⟨hb2⟩
    have HA := Lib.hid ha
    clear ha
    go_wp2
    go_loopw [7] (fun h wr => ∃ (k m : Nat) (D : Option Addr), p ≤ k ∧ (k ≤ 4 ∨ k = p) ∧ h = .slice D k m ∧ Hid (Acc wr w1.heap.size 9 D k m ((hd ++ List.replicate (k - p) []).map Bs.mk) []) ∧ Since w1 wr) (fun h _ => 4 - (match h with | .slice _ k _ => k | _ => 0))
    case atStart => exact ⟨p, p, _, Nat.le_refl _, .inr rfl, rfl, Lib.hid (by simpa using HA.out), HB2⟩
    case round =>
      obtain ⟨k, m, D, hk, hk4, rfl, HA, hs⟩ := hrel
      obtain ⟨wo, rfl⟩ : ∃ wo, wo = wr := ⟨_, rfl⟩
      have hzo := hs.out.size
      by_cases hlt : k < 4
      · have i1 : (k : Int) < 4 := by omega
        have HS : Hid (hd ++ List.replicate (k + 1 - p) ([] : List UInt8) = (hd ++ List.replicate (k - p) []) ++ [[]]) := Lib.hid (by rw [HP.out]; exact pad4_snoc (by have := HP.out; omega))
        go_wp2_with (at_builtin; refine wpList_push (α := Bs) _ (by rfl) (.tmp 19) (.tmp 20) 70 (by rfl) w1.heap.size 9 (.string ⟨#[]⟩) 16 Tryd.underlying70 infoStr rfl D k m _ [] (by rfl) (HA.out.alloc _) wo.heap.size 1 (by rfl) ⟨[]⟩ [.string (str [])] [] ⟨rfl, rfl⟩ (new_cells (by first | rfl | simp [sz_set])) (fun u hu => by (simp at hu; subst hu; rfl)) ⟨List.nodup_nil, fun g hg => by simp at hg⟩ (fun g hg => by simp at hg) (by omega) (by omega) (by first | omega | (simp only [sz_alloc, sz_set, sz_drew, sz_drewN]; omega) | (simp only [sz_alloc, sz_set, sz_drew, sz_drewN] at *; omega)) ?_
                     intro D2 d2 w5 hacc hgr hnew
                     have HS5 : Since w1 w5 := ⟨Acc.since (HA.out.alloc _) hgr (by repeat (first | exact Below.refl _ _ | exact Since.out (by assumption) | refine Below.alloc ?_ (by first | omega | (simp only [sz_alloc, sz_set, sz_drew, sz_drewN]; omega) | (simp only [sz_alloc, sz_set, sz_drew, sz_drewN] at *; omega)) _ | refine Below.setCell ?_ (by first | omega | (simp only [sz_alloc, sz_set, sz_drew, sz_drewN]; omega) | (simp only [sz_alloc, sz_set, sz_drew, sz_drewN] at *; omega)) _ | refine Below.drew ?_ | refine below_drewN_ ?_ _)) (Nat.le_refl _) (by first | omega | (simp only [sz_alloc, sz_set, sz_drew, sz_drewN]; omega) | (simp only [sz_alloc, sz_set, sz_drew, sz_drewN] at *; omega))⟩
                     have HA5 := Lib.hid hacc
                     clear hacc hgr hnew)
        go_roundw
        case rel => exact ⟨k + 1, d2, D2, by omega, .inl (by omega), by first | rfl | simp, Lib.hid (by rw [HS.out, List.map_append]; exact HA5.out), HS5⟩
        case measure => simp; omega
      · have i1 : ¬ (k : Int) < 4 := by omega
        have hk2 : k = (pad4 hd).length := by
          unfold pad4
          rw [List.length_append, List.length_replicate, ← HP.out]
          omega
        have hpe : hd ++ List.replicate (k - p) [] = pad4 hd := by
          unfold pad4
          rw [← HP.out]
          congr 2
          omega
        have R1 : RdS wo wo.heap.size D ((pad4 hd).map Bs.mk) := by rw [← hpe]; exact HA.out.rd
        have RT := (rd_tail r)
        have RT2 : RdS wo wo.heap.size (some ⟨b, 1, none⟩) (ls.map Bs.mk) := RT.up hs.out
        clear hpe RT
        have HK := Lib.hid hk2
        clear hk2
        by_cases hn0 : n = 0
        · have hls : ls = [] := List.eq_nil_of_length_eq_zero (by rw [← HNL.out]; exact hn0)
          have RZ : RdS wo wo.heap.size (some ⟨b, 0, none⟩) (ls.map Bs.mk) := by rw [hls]; exact fun k x hx => by simp at hx
          have HLS := Lib.hid hls
          subst hn0
          clear RT2 hls
          go_wp2
          go_region
          go_wp2
          go_ret2
          exact ⟨D, m, some ⟨b, 0, none⟩, 0, by rw [← HK.out, HLS.out]; rfl, R1.up (by repeat (first | exact Below.refl _ _ | refine Below.alloc ?_ (by first | omega | (simp only [sz_alloc, sz_set, sz_drew, sz_drewN]; omega) | (simp only [sz_alloc, sz_set, sz_drew, sz_drewN] at *; omega)) _ | refine Below.setCell ?_ (by first | omega | (simp only [sz_alloc, sz_set, sz_drew, sz_drewN]; omega) | (simp only [sz_alloc, sz_set, sz_drew, sz_drewN] at *; omega)) _ | refine Below.drew ?_ | refine below_drewN_ ?_ _)), RZ.up (by repeat (first | exact Below.refl _ _ | refine Below.alloc ?_ (by first | omega | (simp only [sz_alloc, sz_set, sz_drew, sz_drewN]; omega) | (simp only [sz_alloc, sz_set, sz_drew, sz_drewN] at *; omega)) _ | refine Below.setCell ?_ (by first | omega | (simp only [sz_alloc, sz_set, sz_drew, sz_drewN]; omega) | (simp only [sz_alloc, sz_set, sz_drew, sz_drewN] at *; omega)) _ | refine Below.drew ?_ | refine below_drewN_ ?_ _)), (HB1.out.trans (hs.out.mono hz1)).drew⟩
        · have i2 : (1 : Int) ≤ (n : Int) + 1 := by omega
          go_wp2
          go_region
          go_wp2
          go_ret2
          exact ⟨D, m, some ⟨b, 1, none⟩, n, by rw [← HK.out, ← HNL.out]; rfl, R1.up (by repeat (first | exact Below.refl _ _ | refine Below.alloc ?_ (by first | omega | (simp only [sz_alloc, sz_set, sz_drew, sz_drewN]; omega) | (simp only [sz_alloc, sz_set, sz_drew, sz_drewN] at *; omega)) _ | refine Below.setCell ?_ (by first | omega | (simp only [sz_alloc, sz_set, sz_drew, sz_drewN]; omega) | (simp only [sz_alloc, sz_set, sz_drew, sz_drewN] at *; omega)) _ | refine Below.drew ?_ | refine below_drewN_ ?_ _)), RT2.up (by repeat (first | exact Below.refl _ _ | refine Below.alloc ?_ (by first | omega | (simp only [sz_alloc, sz_set, sz_drew, sz_drewN]; omega) | (simp only [sz_alloc, sz_set, sz_drew, sz_drewN] at *; omega)) _ | refine Below.setCell ?_ (by first | omega | (simp only [sz_alloc, sz_set, sz_drew, sz_drewN]; omega) | (simp only [sz_alloc, sz_set, sz_drew, sz_drewN] at *; omega)) _ | refine Below.drew ?_ | refine below_drewN_ ?_ _)), (HB1.out.trans (hs.out.mono hz1)).drew⟩
end Go.Proofs.YtelmooaenodfaaaDoor
