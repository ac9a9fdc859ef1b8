/-
  What a call finds in the library's variables, from the row's condition: the greatest length, the two sentinels. Conditions: those in each statement.
-/
import Derived.Test.YtelmooaenodfaaaDoorSpl
import Derived.Test.YtelmooaenodfaaaDoorRows
import Derived.Test.YtelmooaenodfaaaDoorTnTxt2
import Derived.Stop.LaidErr
import Derived.Lib.LaidTab
set_option linter.unusedVariables false
set_option linter.unusedSimpArgs false
set_option maxRecDepth 100000
set_option maxHeartbeats 1000000
namespace Go.Proofs.YtelmooaenodfaaaDoor
open Go.RowKit Go.ChangeShapes Go.WideShapes

theorem starErr : "*" ++ "errors.errorString" = "*errors.errorString" := by decide
theorem rowErr (u : TypeId) (h : Tryd.prog.typeName? 3 u = some "*errors.errorString") : u = 209 :=
  typeName_ptr_named (nm := "errors.errorString") (by rw [starErr]; kernel_rfl) (by kernel_rfl) (by decide) u (by rw [starErr]; exact h)
theorem Env_of {W : World} (hsh : W.ShapedOpen Tryd.prog) (h0 : laidMetH Tryd.prog Rows.fnExactReadTableRow.laid W) : Env W := by
  have h : laidMet Tryd.prog Rows.fnExactReadTableRow.laid W := h0
  have h4 := h.tail.tail.tail.tail
  have h5 := h4.tail
  obtain ⟨a, s, hv, -⟩ := laid_sentinel h4 (g := 2) (by kernel_rfl) (by kernel_rfl) Tryd.underlying118 rowErr Tryd.underlying209 Tryd.underlying211 rfl rfl Tryd.underlying9 (by kernel_rfl) (by kernel_rfl)
  obtain ⟨a', s', hv', -⟩ := laid_sentinel h5 (g := 1) (by kernel_rfl) (by kernel_rfl) Tryd.underlying118 rowErr Tryd.underlying209 Tryd.underlying211 rfl rfl Tryd.underlying9 (by kernel_rfl) (by kernel_rfl)
  exact ⟨Tryd.laysM146.s1_3 W hsh, ⟨_, World.var?_cell (g := 1) (by kernel_rfl) hv' 0, .inr ⟨_, _, rfl⟩⟩, ⟨_, World.var?_cell (g := 2) (by kernel_rfl) hv 0, .inr ⟨_, _, rfl⟩⟩⟩
theorem str_of (s : ByteArray) : ∃ l, s = str l := ⟨s.data.toList, rfl⟩
end Go.Proofs.YtelmooaenodfaaaDoor
