/-
  strings.Builder at this seat: writing to one of the call's own. Conditions: those in each statement.
-/
import Derived.Test.YtelmooaenodfaaaDoorTxt
import Derived.Shelf.Strings.BuilderK
set_option linter.unusedVariables false
set_option linter.unusedSimpArgs false
set_option maxRecDepth 100000
set_option maxHeartbeats 1000000
namespace Go.Proofs.YtelmooaenodfaaaDoor
open Go.RowKit

theorem bldInfo : (Tryd.prog.info? 116).map (·.size) = some 2 := by kernel_rfl
theorem bldLies : liesAt Tryd.prog Tryd.prog.depth 116 (2 / Tryd.prog.cellsOf 116) 0 116 1 = true := by kernel_rfl
theorem infoByte : (Tryd.prog.info? 5).map (fun i => (i.zero, i.size, i.bytes)) = some (some (.int .u8 0), 1, 1) := by kernel_rfl
theorem escF : Tryd.prog.funcs[(148 : Nat)]? = some Tryd.f148 := Tryd.func148
theorem escN : (Tryd.f148.name == "runtime.NumGoroutine") = false := by kernel_rfl
theorem escB : Tryd.f148.body.isNone = true := by kernel_rfl
theorem escX : Extern.findNext Tryd.f148 = none := by kernel_rfl
theorem escE : Extern.find Tryd.f148 = some Extern.AbiNoEscape.same := by kernel_rfl

theorem copyCheck_used (b : Nat) (w : World) (h0 : w.cell? ⟨b, 0, none⟩ = some (.pointer (some ⟨b, 0, none⟩))) :
    Calls Tryd.prog 127 #[.pointer (some ⟨b, 0, none⟩)] w fun e w' => e = .returned (.tuple #[]) ∧ w' = w := by
  obtain ⟨j, hj, _⟩ := Option.map_eq_some_iff.1 bldInfo
  have hn := Lib.run_neq_ptr_same (w := w) ⟨b, 0, none⟩ Tryd.underlying114 hj
  go_enter Tryd.func127, Tryd.ntmps127
  go_wp2
  go_end0
  exact ⟨rfl, rfl⟩
theorem copyCheck_fresh (b : Nat) (w : World) (h0 : w.cell? ⟨b, 0, none⟩ = some (.pointer none)) (hsh : w.shape? b = some (116, 2)) (hfz : w.frozen? ⟨b, 0, none⟩ = false) :
    Calls Tryd.prog 127 #[.pointer (some ⟨b, 0, none⟩)] w fun e w' => e = .returned (.tuple #[]) ∧ w' = w.setCell ⟨b, 0, none⟩ (.pointer (some ⟨b, 0, none⟩)) := by
  obtain ⟨j, hj, hjs⟩ := Option.map_eq_some_iff.1 bldInfo
  have hc1 := Lib.run_to_unsafe w ⟨b, 0, none⟩ Tryd.underlying114 Tryd.underlying178 hj (by rw [hjs]; decide) hsh (Nat.zero_lt_succ 1)
  have hc2 := Lib.run_from_unsafe w ⟨b, 0, none⟩ Tryd.underlying178 Tryd.underlying114 hj hsh bldLies
  have hn := Lib.run_neq_ptr_same (w := w.setCell ⟨b, 0, none⟩ (.pointer (some ⟨b, 0, none⟩))) ⟨b, 0, none⟩ Tryd.underlying114 hj
  have he : (callFunc 148 #[.pointer (some ⟨b, 0, none⟩)]).run Tryd.prog w = .ok (.value (.pointer (some ⟨b, 0, none⟩))) w := by
    rw [run_callFunc_extern escF escN escB escX escE, Lib.run_noEscape]
    rfl
  go_enter Tryd.func127, Tryd.ntmps127
  go_wp2
  go_end0
  exact ⟨rfl, rfl⟩
theorem copyCheck_any (B b : Nat) (bs : List Value) (w : World) (h : Lib.IsBuilderF 116 5 B b bs w) :
    Calls Tryd.prog 127 #[.pointer (some ⟨b, 0, none⟩)] w fun e w' => e = .returned (.tuple #[]) ∧ Lib.BuilderAtF 116 5 B b (.pointer (some ⟨b, 0, none⟩)) bs w' ∧ Below B w w' := by
  rcases h with h | h
  · refine (copyCheck_fresh b w h.cell0 h.shape h.frozen0).mono ?_
    rintro e w' ⟨rfl, rfl⟩
    exact ⟨rfl, h.used _, (Below.refl B w).setCell (p := ⟨b, 0, none⟩) h.1 _⟩
  · refine (copyCheck_used b w h.cell0).mono ?_
    rintro e w' ⟨rfl, rfl⟩
    exact ⟨rfl, h, Below.refl B _⟩
theorem strCells_str (s : List UInt8) : Lib.strCells (str s) = Lib.byteCells s := by simp [Lib.strCells, Lib.byteCells, str]

/-- A builder of the call's own, in block b, that holds the bytes l. -/
def Bld (w : World) (b : Nat) (l : List UInt8) : Prop := Lib.IsBuilderF 116 5 b b (Lib.byteCells l) w
set_option maxHeartbeats 2000000 in
theorem bld_write (b : Nat) (l s : List UInt8) (w : World) (h : Bld w b l) (hlen : l.length + s.length ≤ 1000000) :
    Calls Tryd.prog 82 #[.pointer (some ⟨b, 0, none⟩), .string (str s)] w fun e w' => e = .returned (.tuple #[.int .i64 s.length, .nilIface]) ∧ Bld w' b (l ++ s) ∧ Below b w w' := by
  obtain ⟨i0, hi, hz0, hz1, hz2⟩ := info_parts infoByte
  have hbl : b < w.heap.size := by
    rcases h with h | h
    · exact h.lt
    · exact h.lt
  have hl : (Lib.byteCells l).length = l.length := Lib.byteCells_length l
  have hss : (str s).size = s.length := str_size s
  have hs0 : (s.length : Int) ≤ 1000000 := by omega
  go_enter Tryd.func82, Tryd.ntmps82
  go_wp2_with (go_at_call 127; refine (copyCheck_any b b _ _ h).mono ?_; rintro e w1 ⟨rfl, h1, hb1⟩; refine Hid.out ?_)
  refine Lib.hid ?_
  have hzw := hb1.size
  obtain ⟨hB, v, hbk, hown, hne⟩ := h1
  have c0 : w1.cell? ⟨b, 0, none⟩ = some (.pointer (some ⟨b, 0, none⟩)) := by rw [Lib.cell_of_heap hbk]; rfl
  have c1 : w1.cell? ⟨b, 1, none⟩ = some v := by rw [Lib.cell_of_heap hbk]; rfl
  go_wp2_with (at_builtin; refine Lib.wpList_append_own_stringF _ rfl _ _ 66 9 rfl b 5 i0 Tryd.underlying66 Tryd.underlying9 hi hz0 hz1 hz2 _ _ _ rfl hown (str s) rfl ?c3 ?c4 ?c5 ?_)
  case c3 => unfold maxLen; omega
  case c4 => omega
  case c5 => omega
  intro v' w2 hown' hgrow _
  have hlt : b < w1.heap.size := by omega
  have hb2 : w2.heap[b]? = some (.cells #[.pointer (some ⟨b, 0, none⟩), v] 116 (0, 0)) := by
    rw [hgrow.block b hlt (fun e => hne e.symm)]
    exact hbk
  have d0 : w2.cell? ⟨b, 0, none⟩ = some (.pointer (some ⟨b, 0, none⟩)) := by rw [Lib.cell_of_heap hb2]; rfl
  have d1 : w2.cell? ⟨b, 1, none⟩ = some v := by rw [Lib.cell_of_heap hb2]; rfl
  have f1 : w2.frozen? ⟨b, 1, none⟩ = false := Lib.frozen_of_heap hb2 1
  obtain ⟨ao, n', cap, rfl⟩ : ∃ ao n' cap, v' = .slice ao n' cap := by
    rcases hown'.2 with ⟨hv, _⟩ | ⟨g, cap, cur, fz, hv, _⟩
    · exact ⟨_, _, _, hv⟩
    · exact ⟨_, _, _, hv⟩
  have HO := Lib.hid hown'
  have HG := Lib.hid hgrow
  clear hown' hgrow
  go_wp2
  go_ret2
  have hn : 116 ≠ 5 := by decide
  have hc : Lib.byteCells (l ++ s) = Lib.byteCells l ++ Lib.strCells (str s) := by rw [strCells_str, Lib.byteCells_append]
  refine ⟨by rw [← hss]; rfl, ?_, ?_⟩
  · refine .inr ?_
    rw [hc]
    exact Lib.BuilderAtF.put (T := 116) (e := 5) hB hb2 (bs' := Lib.byteCells l ++ Lib.strCells (str s)) (by rw [List.length_append, Lib.strCells_length, hl, hss]; exact HO.out) hn
  · exact (hb1.grown HG.out (by omega) (fun k hk => (hown.lt k hk).1)).setCell (p := ⟨b, 1, none⟩) hB _
theorem bld_string (b : Nat) (l : List UInt8) (w : World) (h : Bld w b l) :
    Calls Tryd.prog 85 #[.pointer (some ⟨b, 0, none⟩)] w fun e w' => e = .returned (.string (str l)) ∧ Below b w w' := by
  have hbl : b < w.heap.size := by
    rcases h with h | h
    · exact h.lt
    · exact h.lt
  exact (Tryd.Builder_String_any_f b b l w h (by omega)).mono fun e w' hh => ⟨hh.1, hh.2.2⟩
end Go.Proofs.YtelmooaenodfaaaDoor
