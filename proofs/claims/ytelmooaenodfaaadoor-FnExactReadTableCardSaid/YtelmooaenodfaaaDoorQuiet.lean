/-
  A region that draws its order and whose calls make memory, each call handing back ONE value whatever world of a class it is made in. No program in sight. Conditions: those in each statement.
-/
import Derived.Test.YtelmooaenodfaaaDoorMem
import Derived.BigQuiet
set_option linter.unusedVariables false
set_option linter.unusedSimpArgs false
set_option maxRecDepth 100000
set_option maxHeartbeats 1000000
namespace Go.Proofs.YtelmooaenodfaaaDoor
open Go.RowKit Go.BigFrame

section
variable {P : Program} {C : World → Prop}
theorem region_class {id : Nat} {Q : Exit → Act → World → Prop} {a : Act} {w : World} {l : List Oper} (C : World → Prop) (hm : P.follows .mixedOrders = true) (hB : Region.lexB .any l.toArray = true) (hC : C w.drew)
    (h : wpQuiet P l.toArray C (fun a' => ∀ w', C w' → Q .normal a' w') l a) : (Code.region id l.toArray true).wp P Q a w :=
  wp_region_quiet (C := C) hm hB hC (by simpa using h)
theorem quiet_val {o : Oper} {a : Act} {K : Act → Prop} (v : Value) (h : ∀ w', C w' → (execOp a.eval o).run P w' = .ok (.value v) w') (hk : K (a.put o.dst v)) : o.quiet P a C K :=
  ⟨v, fun w' hw => by unfold Oper.quietAt; rw [h w' hw]; exact ⟨rfl, rfl⟩, hk⟩
theorem quiet_call {o : Oper} {a : Act} {K : Act → Prop} (f : FuncId) (args : Array Value) (v : Value) (he : ∀ w', (execOp a.eval o).run P w' = .ok (.enter f args) w') (h : ∀ w', C w' → Calls P f args w' (fun e w'' => e = .returned v ∧ C w'')) (hk : K (a.put o.dst v)) : o.quiet P a C K :=
  ⟨v, fun w' hw => by unfold Oper.quietAt; rw [he w']; exact ⟨rfl, h w' hw⟩, hk⟩
end
end Go.Proofs.YtelmooaenodfaaaDoor
