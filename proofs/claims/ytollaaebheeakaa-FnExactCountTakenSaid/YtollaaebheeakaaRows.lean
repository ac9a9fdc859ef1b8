/-
  No cell of these rows narrows 'for every input' (looked for: loops, veiled, ifaces, maps, wideKeys, modest, calm, conditions, laid).
  DERIVED. THE GIVEN ROWS OF THIS SEAT. 8 by the template 'for every input the law returns true; each argument reads behind the call as it read before'; 0 by the template 'total and deterministic' (their statements: YtollaaebheeakaaTotals.lean).
  GIVEN WITH THE SEED: the statements are not yours to turn. If you find one false, say at which input.
  Laid BY PROGRAM, IN A SANDBOX (cutbox-rows.mjs): the forced cells as the released guide's own fill.sh prints them over the translation c9c3f5d7bd3bfa59… (all of the seat's roots in one cut). By AI agents, Wed Nov 11 2026. No macro, syntax, notation, axiom, sorry.
-/
import Derived.Test.YtollaaebheeakaaChecked
import GoSem.Claim
import GoSem.ClaimJoined
import GoSem.ClaimMapViews
import Derived.JoinedTies
import Derived.KernelRfl
namespace Go.Proofs.Ytollaaebheeakaa
/- THE CELL 'sum', in the pinned program and in every row, IS THE sha256 OF THE DUMP (.gsa) THAT YtollaaebheeakaaProg.lean LOADS. Nothing in Lean hashes anything: it is a label: what it is worth is what the hold of that sum in a sandbox is worth. -/
noncomputable def Try.pinned : Pinned := { name := "ytollaaebheeakaa", sum := "c9c3f5d7bd3bfa59e94e2d47727f0308454dd61fd0355807880ae27a2265cfba", checked := Try.checked }
namespace Rows
def none {H : Type} : Left H := { results := [], args := [] }

/-- 'laws.FnExactTurnTable': WHATEVER THE INPUT: true; the input reads as it did. -/
def fnExactTurnTableSpec : ChangeSpec := { name := "fnExactTurnTable", fn := fun _ => fun
  | [d] => { results := [.lit (.bool true)], args := [d] }
  | _ => none }
def fnExactTurnTableRow : OpenClaim := { program := "ytollaaebheeakaa", sum := "c9c3f5d7bd3bfa59e94e2d47727f0308454dd61fd0355807880ae27a2265cfba", func := "loop.example/g01134/laws.FnExactTurnTable", spec := "fnExactTurnTable", unfollowed := true, recurses := true, plainKeys := false, apart := false }
def FnExactTurnTableSaid : Prop := fnExactTurnTableRow.holds Try.pinned (OpenSpec.ofChange fnExactTurnTableSpec)

/-- ITS FALSE NEIGHBOUR: 'it returns false'. Refute it at one input. -/
def fnExactTurnTableWrong : ChangeSpec := { name := "fnExactTurnTable", fn := fun _ => fun
  | [d] => { results := [.lit (.bool false)], args := [d] }
  | _ => none }
def FnExactTurnTableWrongFalsely : Prop := fnExactTurnTableRow.holds Try.pinned (OpenSpec.ofChange fnExactTurnTableWrong)

/-- 'laws.FnExactJoinTables': WHATEVER THE INPUT: true; the input reads as it did. -/
def fnExactJoinTablesSpec : ChangeSpec := { name := "fnExactJoinTables", fn := fun _ => fun
  | [d1, d2] => { results := [.lit (.bool true)], args := [d1, d2] }
  | _ => none }
def fnExactJoinTablesRow : OpenClaim := { program := "ytollaaebheeakaa", sum := "c9c3f5d7bd3bfa59e94e2d47727f0308454dd61fd0355807880ae27a2265cfba", func := "loop.example/g01134/laws.FnExactJoinTables", spec := "fnExactJoinTables", unfollowed := true, recurses := true, plainKeys := false, apart := false }
def FnExactJoinTablesSaid : Prop := fnExactJoinTablesRow.holds Try.pinned (OpenSpec.ofChange fnExactJoinTablesSpec)

/-- ITS FALSE NEIGHBOUR: 'it returns false'. Refute it at one input. -/
def fnExactJoinTablesWrong : ChangeSpec := { name := "fnExactJoinTables", fn := fun _ => fun
  | [d1, d2] => { results := [.lit (.bool false)], args := [d1, d2] }
  | _ => none }
def FnExactJoinTablesWrongFalsely : Prop := fnExactJoinTablesRow.holds Try.pinned (OpenSpec.ofChange fnExactJoinTablesWrong)

/-- 'laws.FnExactValidMany': WHATEVER THE INPUT: true; the input reads as it did. -/
def fnExactValidManySpec : ChangeSpec := { name := "fnExactValidMany", fn := fun _ => fun
  | [d] => { results := [.lit (.bool true)], args := [d] }
  | _ => none }
def fnExactValidManyRow : OpenClaim := { program := "ytollaaebheeakaa", sum := "c9c3f5d7bd3bfa59e94e2d47727f0308454dd61fd0355807880ae27a2265cfba", func := "loop.example/g01134/laws.FnExactValidMany", spec := "fnExactValidMany", unfollowed := true, recurses := true, plainKeys := false, apart := false }
def FnExactValidManySaid : Prop := fnExactValidManyRow.holds Try.pinned (OpenSpec.ofChange fnExactValidManySpec)

/-- ITS FALSE NEIGHBOUR: 'it returns false'. Refute it at one input. -/
def fnExactValidManyWrong : ChangeSpec := { name := "fnExactValidMany", fn := fun _ => fun
  | [d] => { results := [.lit (.bool false)], args := [d] }
  | _ => none }
def FnExactValidManyWrongFalsely : Prop := fnExactValidManyRow.holds Try.pinned (OpenSpec.ofChange fnExactValidManyWrong)

/-- 'laws.FnExactCountTaken': WHATEVER THE INPUT: true; the input reads as it did. -/
def fnExactCountTakenSpec : ChangeSpec := { name := "fnExactCountTaken", fn := fun _ => fun
  | [d1, d2] => { results := [.lit (.bool true)], args := [d1, d2] }
  | _ => none }
def fnExactCountTakenRow : OpenClaim := { program := "ytollaaebheeakaa", sum := "c9c3f5d7bd3bfa59e94e2d47727f0308454dd61fd0355807880ae27a2265cfba", func := "loop.example/g01134/laws.FnExactCountTaken", spec := "fnExactCountTaken", unfollowed := true, recurses := true, plainKeys := false, apart := false }
def FnExactCountTakenSaid : Prop := fnExactCountTakenRow.holds Try.pinned (OpenSpec.ofChange fnExactCountTakenSpec)

/-- ITS FALSE NEIGHBOUR: 'it returns false'. Refute it at one input. -/
def fnExactCountTakenWrong : ChangeSpec := { name := "fnExactCountTaken", fn := fun _ => fun
  | [d1, d2] => { results := [.lit (.bool false)], args := [d1, d2] }
  | _ => none }
def FnExactCountTakenWrongFalsely : Prop := fnExactCountTakenRow.holds Try.pinned (OpenSpec.ofChange fnExactCountTakenWrong)

/-- 'laws.FnExactSameMany': WHATEVER THE INPUT: true; the input reads as it did. -/
def fnExactSameManySpec : ChangeSpec := { name := "fnExactSameMany", fn := fun _ => fun
  | [d1, d2] => { results := [.lit (.bool true)], args := [d1, d2] }
  | _ => none }
def fnExactSameManyRow : OpenClaim := { program := "ytollaaebheeakaa", sum := "c9c3f5d7bd3bfa59e94e2d47727f0308454dd61fd0355807880ae27a2265cfba", func := "loop.example/g01134/laws.FnExactSameMany", spec := "fnExactSameMany", unfollowed := true, recurses := true, plainKeys := false, apart := false }
def FnExactSameManySaid : Prop := fnExactSameManyRow.holds Try.pinned (OpenSpec.ofChange fnExactSameManySpec)

/-- ITS FALSE NEIGHBOUR: 'it returns false'. Refute it at one input. -/
def fnExactSameManyWrong : ChangeSpec := { name := "fnExactSameMany", fn := fun _ => fun
  | [d1, d2] => { results := [.lit (.bool false)], args := [d1, d2] }
  | _ => none }
def FnExactSameManyWrongFalsely : Prop := fnExactSameManyRow.holds Try.pinned (OpenSpec.ofChange fnExactSameManyWrong)

/-- 'laws.FnExactSameWanderer': WHATEVER THE INPUT: true; the input reads as it did. -/
def fnExactSameWandererSpec : ChangeSpec := { name := "fnExactSameWanderer", fn := fun _ => fun
  | [d1, d2] => { results := [.lit (.bool true)], args := [d1, d2] }
  | _ => none }
def fnExactSameWandererRow : OpenClaim := { program := "ytollaaebheeakaa", sum := "c9c3f5d7bd3bfa59e94e2d47727f0308454dd61fd0355807880ae27a2265cfba", func := "loop.example/g01134/laws.FnExactSameWanderer", spec := "fnExactSameWanderer", unfollowed := true, recurses := true, plainKeys := false, apart := false }
def FnExactSameWandererSaid : Prop := fnExactSameWandererRow.holds Try.pinned (OpenSpec.ofChange fnExactSameWandererSpec)

/-- ITS FALSE NEIGHBOUR: 'it returns false'. Refute it at one input. -/
def fnExactSameWandererWrong : ChangeSpec := { name := "fnExactSameWanderer", fn := fun _ => fun
  | [d1, d2] => { results := [.lit (.bool false)], args := [d1, d2] }
  | _ => none }
def FnExactSameWandererWrongFalsely : Prop := fnExactSameWandererRow.holds Try.pinned (OpenSpec.ofChange fnExactSameWandererWrong)

/-- 'laws.FnExactValidWanderer': WHATEVER THE INPUT: true; the input reads as it did. -/
def fnExactValidWandererSpec : ChangeSpec := { name := "fnExactValidWanderer", fn := fun _ => fun
  | [d] => { results := [.lit (.bool true)], args := [d] }
  | _ => none }
def fnExactValidWandererRow : OpenClaim := { program := "ytollaaebheeakaa", sum := "c9c3f5d7bd3bfa59e94e2d47727f0308454dd61fd0355807880ae27a2265cfba", func := "loop.example/g01134/laws.FnExactValidWanderer", spec := "fnExactValidWanderer", plainKeys := false, apart := false }
def FnExactValidWandererSaid : Prop := fnExactValidWandererRow.holds Try.pinned (OpenSpec.ofChange fnExactValidWandererSpec)

/-- ITS FALSE NEIGHBOUR: 'it returns false'. Refute it at one input. -/
def fnExactValidWandererWrong : ChangeSpec := { name := "fnExactValidWanderer", fn := fun _ => fun
  | [d] => { results := [.lit (.bool false)], args := [d] }
  | _ => none }
def FnExactValidWandererWrongFalsely : Prop := fnExactValidWandererRow.holds Try.pinned (OpenSpec.ofChange fnExactValidWandererWrong)

/-- 'laws.FnExactFirstUnlike': WHATEVER THE INPUT: true; the input reads as it did. -/
def fnExactFirstUnlikeSpec : ChangeSpec := { name := "fnExactFirstUnlike", fn := fun _ => fun
  | [d1, d2] => { results := [.lit (.bool true)], args := [d1, d2] }
  | _ => none }
def fnExactFirstUnlikeRow : OpenClaim := { program := "ytollaaebheeakaa", sum := "c9c3f5d7bd3bfa59e94e2d47727f0308454dd61fd0355807880ae27a2265cfba", func := "loop.example/g01134/laws.FnExactFirstUnlike", spec := "fnExactFirstUnlike", unfollowed := true, recurses := true, plainKeys := false, apart := false }
def FnExactFirstUnlikeSaid : Prop := fnExactFirstUnlikeRow.holds Try.pinned (OpenSpec.ofChange fnExactFirstUnlikeSpec)

/-- ITS FALSE NEIGHBOUR: 'it returns false'. Refute it at one input. -/
def fnExactFirstUnlikeWrong : ChangeSpec := { name := "fnExactFirstUnlike", fn := fun _ => fun
  | [d1, d2] => { results := [.lit (.bool false)], args := [d1, d2] }
  | _ => none }
def FnExactFirstUnlikeWrongFalsely : Prop := fnExactFirstUnlikeRow.holds Try.pinned (OpenSpec.ofChange fnExactFirstUnlikeWrong)

/- THE SECOND FORM. 'bulk': how many values and letters a reading holds, each counted each time it is reached (what is shared counts as often as it is met; a slice's spare places count too). A statement '..UptoSaid' is the law's where the arguments, and the package variables that the reading takes, are together of bulk at most 1048576: NARROWER than '..Said'. Prove '..Said' where nothing that the law and all that it calls make is longer than what came in: it says more and counts as full. Else prove '..UptoSaid'. A law counts once. -/
mutual
def uptoBulk {H : Type} : DataW H → Nat
  | .lit (.string bytes) => bytes.length + 1
  | .lit _ => 1
  | .nil => 1
  | .ptr d => uptoBulk d + 1
  | .slice elems spare => uptoBulkAll elems + uptoBulkAll spare + 1
  | .agg parts => uptoBulkAll parts + 1
  | .iface _ d => uptoBulk d + 1
  | .map entries => uptoBulkEntries entries + 1
  | .held _ => 1
def uptoBulkAll {H : Type} : List (DataW H) → Nat
  | [] => 0
  | d :: r => uptoBulk d + uptoBulkAll r
def uptoBulkEntries {H : Type} : List (Lit × DataW H) → Nat
  | [] => 0
  | x :: r => uptoBulkEntry x + uptoBulkEntries r
def uptoBulkEntry {H : Type} : Lit × DataW H → Nat
  | (.string bytes, d) => bytes.length + uptoBulk d + 1
  | (_, d) => uptoBulk d + 1
 end
def uptoSmall : (H : Type) → List (DataW H) → Bool := fun _ ds => decide (uptoBulkAll ds ≤ 1048576)
def OpenSpec.upto (s : _root_.Go.ChangeSpec) : _root_.Go.OpenSpec := { _root_.Go.OpenSpec.ofChange s with cond := some uptoSmall }

/-- 'laws.FnExactTurnTable', WHERE WHAT IT READS IS OF BULK AT MOST 1048576: true; the input reads as it did. -/
def fnExactTurnTableUptoRow : OpenClaim := { program := "ytollaaebheeakaa", sum := "c9c3f5d7bd3bfa59e94e2d47727f0308454dd61fd0355807880ae27a2265cfba", func := "loop.example/g01134/laws.FnExactTurnTable", spec := "fnExactTurnTable", unfollowed := true, recurses := true, plainKeys := false, apart := false, narrowed := true }
def FnExactTurnTableUptoSaid : Prop := fnExactTurnTableUptoRow.holds Try.pinned (OpenSpec.upto fnExactTurnTableSpec)

/-- 'laws.FnExactJoinTables', WHERE WHAT IT READS IS OF BULK AT MOST 1048576: true; the input reads as it did. -/
def fnExactJoinTablesUptoRow : OpenClaim := { program := "ytollaaebheeakaa", sum := "c9c3f5d7bd3bfa59e94e2d47727f0308454dd61fd0355807880ae27a2265cfba", func := "loop.example/g01134/laws.FnExactJoinTables", spec := "fnExactJoinTables", unfollowed := true, recurses := true, plainKeys := false, apart := false, narrowed := true }
def FnExactJoinTablesUptoSaid : Prop := fnExactJoinTablesUptoRow.holds Try.pinned (OpenSpec.upto fnExactJoinTablesSpec)

/-- 'laws.FnExactValidMany', WHERE WHAT IT READS IS OF BULK AT MOST 1048576: true; the input reads as it did. -/
def fnExactValidManyUptoRow : OpenClaim := { program := "ytollaaebheeakaa", sum := "c9c3f5d7bd3bfa59e94e2d47727f0308454dd61fd0355807880ae27a2265cfba", func := "loop.example/g01134/laws.FnExactValidMany", spec := "fnExactValidMany", unfollowed := true, recurses := true, plainKeys := false, apart := false, narrowed := true }
def FnExactValidManyUptoSaid : Prop := fnExactValidManyUptoRow.holds Try.pinned (OpenSpec.upto fnExactValidManySpec)

/-- 'laws.FnExactCountTaken', WHERE WHAT IT READS IS OF BULK AT MOST 1048576: true; the input reads as it did. -/
def fnExactCountTakenUptoRow : OpenClaim := { program := "ytollaaebheeakaa", sum := "c9c3f5d7bd3bfa59e94e2d47727f0308454dd61fd0355807880ae27a2265cfba", func := "loop.example/g01134/laws.FnExactCountTaken", spec := "fnExactCountTaken", unfollowed := true, recurses := true, plainKeys := false, apart := false, narrowed := true }
def FnExactCountTakenUptoSaid : Prop := fnExactCountTakenUptoRow.holds Try.pinned (OpenSpec.upto fnExactCountTakenSpec)

/-- 'laws.FnExactSameMany', WHERE WHAT IT READS IS OF BULK AT MOST 1048576: true; the input reads as it did. -/
def fnExactSameManyUptoRow : OpenClaim := { program := "ytollaaebheeakaa", sum := "c9c3f5d7bd3bfa59e94e2d47727f0308454dd61fd0355807880ae27a2265cfba", func := "loop.example/g01134/laws.FnExactSameMany", spec := "fnExactSameMany", unfollowed := true, recurses := true, plainKeys := false, apart := false, narrowed := true }
def FnExactSameManyUptoSaid : Prop := fnExactSameManyUptoRow.holds Try.pinned (OpenSpec.upto fnExactSameManySpec)

/-- 'laws.FnExactSameWanderer', WHERE WHAT IT READS IS OF BULK AT MOST 1048576: true; the input reads as it did. -/
def fnExactSameWandererUptoRow : OpenClaim := { program := "ytollaaebheeakaa", sum := "c9c3f5d7bd3bfa59e94e2d47727f0308454dd61fd0355807880ae27a2265cfba", func := "loop.example/g01134/laws.FnExactSameWanderer", spec := "fnExactSameWanderer", unfollowed := true, recurses := true, plainKeys := false, apart := false, narrowed := true }
def FnExactSameWandererUptoSaid : Prop := fnExactSameWandererUptoRow.holds Try.pinned (OpenSpec.upto fnExactSameWandererSpec)

/-- 'laws.FnExactValidWanderer', WHERE WHAT IT READS IS OF BULK AT MOST 1048576: true; the input reads as it did. -/
def fnExactValidWandererUptoRow : OpenClaim := { program := "ytollaaebheeakaa", sum := "c9c3f5d7bd3bfa59e94e2d47727f0308454dd61fd0355807880ae27a2265cfba", func := "loop.example/g01134/laws.FnExactValidWanderer", spec := "fnExactValidWanderer", plainKeys := false, apart := false, narrowed := true }
def FnExactValidWandererUptoSaid : Prop := fnExactValidWandererUptoRow.holds Try.pinned (OpenSpec.upto fnExactValidWandererSpec)

/-- 'laws.FnExactFirstUnlike', WHERE WHAT IT READS IS OF BULK AT MOST 1048576: true; the input reads as it did. -/
def fnExactFirstUnlikeUptoRow : OpenClaim := { program := "ytollaaebheeakaa", sum := "c9c3f5d7bd3bfa59e94e2d47727f0308454dd61fd0355807880ae27a2265cfba", func := "loop.example/g01134/laws.FnExactFirstUnlike", spec := "fnExactFirstUnlike", unfollowed := true, recurses := true, plainKeys := false, apart := false, narrowed := true }
def FnExactFirstUnlikeUptoSaid : Prop := fnExactFirstUnlikeUptoRow.holds Try.pinned (OpenSpec.upto fnExactFirstUnlikeSpec)

end Rows
end Go.Proofs.Ytollaaebheeakaa
