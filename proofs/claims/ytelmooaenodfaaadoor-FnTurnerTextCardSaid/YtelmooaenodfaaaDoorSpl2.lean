/-
  The reference's cut of a text at a byte; numbers read by the reference and by the program. Conditions: those in each statement.
-/
import Derived.Test.YtelmooaenodfaaaDoorSpl
import Derived.Lib.AtoiErrMem
set_option linter.unusedVariables false
set_option linter.unusedSimpArgs false
set_option maxRecDepth 100000
set_option maxHeartbeats 1000000
namespace Go.Proofs.YtelmooaenodfaaaDoor
open Go.RowKit

theorem infoStr : (Tryd.prog.info? 9).map (fun i => (i.zero, i.size, i.bytes)) = some (some (.string ⟨#[]⟩), 1, 16) := by kernel_rfl

set_option maxHeartbeats 4000000 in
theorem split_spec (l : List UInt8) (c : UInt8) (z : Int) (hz : z = c.toNat) (w : World) (hl : l.length ≤ 1048576) :
    Calls Tryd.prog 44 #[.string (str l), .int .u8 z] w (RetSplit (splitL c l) w) := by
  have HZ := Lib.hid hz
  clear hz
  have us : ¬ 9223372036854775807 < (str l).size := by rw [str_size]; omega
  have hsz := str_size l
  go_enter Tryd.func44, Tryd.ntmps44
  go_wp2
  go_loopw [5, 6, 7] (fun out fr i wr => ∃ (k f : Nat) (A : Option Addr) (m : Nat) (xs : List Bs), k ≤ l.length ∧ f ≤ k ∧ xs.length ≤ k ∧ out = .slice A xs.length m ∧ fr = .int .i64 f ∧ i = .int .i64 k ∧ Hid (Acc wr w.heap.size 9 A xs.length m xs []) ∧ Hid (splitL c l = xs.map Bs.l ++ glue ((l.drop f).take (k - f)) (splitL c (l.drop k))) ∧ Since w wr) (fun _ _ i _ => l.length - (intOf i).toNat)
  case atStart => exact ⟨0, 0, _, _, [], Nat.zero_le _, Nat.le_refl _, Nat.le_refl _, rfl, rfl, rfl, Lib.hid (Acc.empty_ (new_block rfl) (Nat.le_refl _)), Lib.hid (by simp [glue_nil (splitL_ne c l)]), ⟨(by repeat (first | exact Below.refl _ _ | refine Below.alloc ?_ (by first | omega | (simp only [sz_alloc, sz_set, sz_drew, sz_drewN]; omega) | (simp only [sz_alloc, sz_set, sz_drew, sz_drewN] at *; omega)) _ | refine Below.setCell ?_ (by first | omega | (simp only [sz_alloc, sz_set, sz_drew, sz_drewN]; omega) | (simp only [sz_alloc, sz_set, sz_drew, sz_drewN] at *; omega)) _ | refine Below.drew ?_ | refine below_drewN_ ?_ _))⟩⟩
  case round =>
    obtain ⟨k, f, A, m, xs, hk, hf, hd, rfl, rfl, rfl, HA, HS, hs⟩ := hrel
    obtain ⟨wo, rfl⟩ : ∃ wo, wo = wr := ⟨_, rfl⟩
    have hzo := hs.out.size
    have x2 := fun W => sl_mid (P := Tryd.prog) Tryd.underlying9 (l := l) hf hk W
    by_cases hlt : k < l.length
    · obtain ⟨b, hb⟩ := get_some hlt
      have x1 := fun W => idx_str (P := Tryd.prog) Tryd.underlying9 hb W
      have i1 : (k : Int) < (l.length : Int) := by omega
      have HB := Lib.hid hb
      clear hb
      by_cases hbc : b = c
      · have hq : ((b.toNat : Int) == z) = true := by rw [HZ.out, hbc]; simp
        have HBC := Lib.hid hbc
        clear hbc
        go_wp2_with (at_builtin; refine wpList_push (α := Bs) _ (by rfl) (.tmp 20) (.tmp 25) 70 (by rfl) w.heap.size 9 (.string ⟨#[]⟩) 16 Tryd.underlying70 infoStr rfl A xs.length m _ [] (by rfl) (HA.out.alloc _) wo.heap.size 1 (by rfl) ⟨(l.drop f).take (k - f)⟩ [.string (str ((l.drop f).take (k - f)))] [] ⟨rfl, rfl⟩ (new_cells (by first | rfl | simp [sz_set])) (fun u hu => by (simp at hu; subst hu; rfl)) ⟨List.nodup_nil, fun g hg => by simp at hg⟩ (fun g hg => by simp at hg) (by omega) (by omega) (by first | omega | (simp only [sz_alloc, sz_set, sz_drew, sz_drewN]; omega) | (simp only [sz_alloc, sz_set, sz_drew, sz_drewN] at *; omega)) ?_
                     intro D d w5 hacc hgr hnew
                     have HS5 : Since w w5 := ⟨Acc.since (HA.out.alloc _) hgr (by repeat (first | exact Below.refl _ _ | exact Since.out (by assumption) | refine Below.alloc ?_ (by first | omega | (simp only [sz_alloc, sz_set, sz_drew, sz_drewN]; omega) | (simp only [sz_alloc, sz_set, sz_drew, sz_drewN] at *; omega)) _ | refine Below.setCell ?_ (by first | omega | (simp only [sz_alloc, sz_set, sz_drew, sz_drewN]; omega) | (simp only [sz_alloc, sz_set, sz_drew, sz_drewN] at *; omega)) _ | refine Below.drew ?_ | refine below_drewN_ ?_ _)) (Nat.le_refl _) (by first | omega | (simp only [sz_alloc, sz_set, sz_drew, sz_drewN]; omega) | (simp only [sz_alloc, sz_set, sz_drew, sz_drewN] at *; omega))⟩
                     have HA5 := Lib.hid hacc
                     clear hacc hgr hnew)
        go_roundw
        case rel => exact ⟨k + 1, k + 1, D, d, xs ++ [⟨(l.drop f).take (k - f)⟩], by omega, Nat.le_refl _, by simp; omega, by simp, by go_num, by go_num, Lib.hid (by rw [show (xs ++ [(⟨(l.drop f).take (k - f)⟩ : Bs)]).length = xs.length + 1 by simp]; exact HA5.out), Lib.hid (by
          rw [HS.out, splitL_hit (HBC.out ▸ HB.out)]
          simp [glue_nil (splitL_ne c _)]), HS5⟩
        case measure => simp [intOf]; omega
      · have hq : ((b.toNat : Int) == z) = false := by
          rw [HZ.out]
          simp only [beq_eq_false_iff_ne, ne_eq]
          intro h
          exact hbc (UInt8.toNat_inj.1 (by omega))
        have HBC := Lib.hid hbc
        clear hbc
        go_wp2
        go_roundw
        case rel => exact ⟨k + 1, f, A, m, xs, by omega, by omega, by omega, rfl, rfl, by go_num, HA, Lib.hid (by
          rw [HS.out, splitL_miss HB.out HBC.out]
          congr 2
          rw [show k + 1 - f = k - f + 1 by omega, List.take_add_one]
          congr 1
          rw [List.getElem?_drop, show f + (k - f) = k by omega, HB.out]
          rfl), hs⟩
        case measure => simp [intOf]; omega
    · obtain rfl : k = l.length := by omega
      have x3 := fun W => sl_from (P := Tryd.prog) Tryd.underlying9 (l := l) hf W
      clear x2
      go_wp2_with (at_builtin; refine wpList_push (α := Bs) _ (by rfl) (.tmp 29) (.tmp 33) 70 (by rfl) w.heap.size 9 (.string ⟨#[]⟩) 16 Tryd.underlying70 infoStr rfl A xs.length m _ [] (by rfl) (HA.out.alloc _) wo.heap.size 1 (by rfl) ⟨l.drop f⟩ [.string (str (l.drop f))] [] ⟨rfl, rfl⟩ (new_cells (by first | rfl | simp [sz_set])) (fun u hu => by (simp at hu; subst hu; rfl)) ⟨List.nodup_nil, fun g hg => by simp at hg⟩ (fun g hg => by simp at hg) (by omega) (by omega) (by first | omega | (simp only [sz_alloc, sz_set, sz_drew, sz_drewN]; omega) | (simp only [sz_alloc, sz_set, sz_drew, sz_drewN] at *; omega)) ?_
                   intro D d w5 hacc hgr hnew
                   have HS5 : Since w w5 := ⟨Acc.since (HA.out.alloc _) hgr (by repeat (first | exact Below.refl _ _ | exact Since.out (by assumption) | refine Below.alloc ?_ (by first | omega | (simp only [sz_alloc, sz_set, sz_drew, sz_drewN]; omega) | (simp only [sz_alloc, sz_set, sz_drew, sz_drewN] at *; omega)) _ | refine Below.setCell ?_ (by first | omega | (simp only [sz_alloc, sz_set, sz_drew, sz_drewN]; omega) | (simp only [sz_alloc, sz_set, sz_drew, sz_drewN] at *; omega)) _ | refine Below.drew ?_ | refine below_drewN_ ?_ _)) (Nat.le_refl _) (by first | omega | (simp only [sz_alloc, sz_set, sz_drew, sz_drewN]; omega) | (simp only [sz_alloc, sz_set, sz_drew, sz_drewN] at *; omega))⟩
                   have HA5 := Lib.hid hacc
                   clear hacc hgr hnew)
      go_ret
      have he : splitL c l = (xs ++ [(⟨l.drop f⟩ : Bs)]).map Bs.l := by
        rw [HS.out]
        simp [splitL, glue, List.take_of_length_le]
      have hn : (splitL c l).length = xs.length + 1 := by rw [he]; simp
      refine ⟨D, d, by rw [hn]; rfl, ?_, fun a ha => (HA5.out.lt a ha).1, HS5.out⟩
      rw [he, List.map_map, show (Bs.mk ∘ Bs.l) = id from rfl, List.map_id]
      exact HA5.out.rd

/-- What the program's number reads: 0 where there is none. -/
def numI (l : List UInt8) : Int := match Lib.parseIntB 64 l with | .ok v => v | _ => 0
theorem number_impl (l : List UInt8) (w : World) (hE : Env w) (hl : l.length ≤ 1048576) :
    Calls Tryd.prog 57 #[.string (str l)] w fun e w' => e = .returned (.int .i64 (numI l)) ∧ Below w.heap.size w w' := by
  have hsz := str_size l
  rcases hp : Lib.parseIntB 64 l with v | _ | _
  · have hn : numI l = v := by unfold numI; rw [hp]
    rw [hn]
    have hc := Tryd.strconv_ParseInt_10_at64_ok (str l) (by omega) v hp w
    clear hp hn
    go_enter Tryd.func57, Tryd.ntmps57
    go_wp2_with fail
    refine hc.mono ?_
    rintro e w' ⟨rfl, hw⟩
    have hb : Since w w' := ⟨by
      rcases hw with rfl | ⟨t, rfl⟩
      · exact Below.refl _ _
      · exact (Lib.bytesWorld_below _ _ _)⟩
    clear hw
    go_wp2
    go_ret
    exact ⟨rfl, hb.out⟩
  · have hn : numI l = 0 := by unfold numI; rw [hp]
    rw [hn]
    obtain ⟨ev, hv, hev⟩ := hE.syn
    have hc := Tryd.strconv_ParseInt_10_at64_syntax (str l) (by omega) hp ev w hv hev
    clear hp hn
    go_enter Tryd.func57, Tryd.ntmps57
    go_wp2_with fail
    refine hc.mono ?_
    rintro e w' ⟨N, rfl, hN, -, hb⟩
    have hb : Since w w' := ⟨hb⟩
    go_wp2
    go_ret
    exact ⟨rfl, hb.out⟩
  · have hn : numI l = 0 := by unfold numI; rw [hp]
    rw [hn]
    obtain ⟨ev, hv, hev⟩ := hE.ran
    have hc := Tryd.strconv_ParseInt_10_at64_range (str l) (by omega) hp ev w hv hev
    clear hp hn
    go_enter Tryd.func57, Tryd.ntmps57
    go_wp2_with fail
    refine hc.mono ?_
    rintro e w' ⟨N, rfl, hN, -, hb⟩
    have hb : Since w w' := ⟨hb⟩
    go_wp2
    go_ret
    exact ⟨rfl, hb.out⟩
end Go.Proofs.YtelmooaenodfaaaDoor
