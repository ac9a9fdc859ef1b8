/-
  No cell of these rows narrows 'for every input' (looked for: loops, veiled, ifaces, maps, wideKeys, modest, calm, conditions, laid).
  DERIVED. THE GIVEN ROWS OF THIS SEAT. 8 by the template 'for every input the law returns true; each argument reads behind the call as it read before'; 0 by the template 'total and deterministic' (their statements: YtepjgaakihhngaaTotals.lean).
  GIVEN WITH THE SEED: the statements are not yours to turn. If you find one false, say at which input.
  Laid BY PROGRAM, IN A SANDBOX (cutbox-rows.mjs): the forced cells as the released guide's own fill.sh prints them over the translation e536fc9fa448c9a3… (all of the seat's roots in one cut). By AI agents, Wed Nov 11 2026. No macro, syntax, notation, axiom, sorry.
-/
import Derived.Test.YtepjgaakihhngaaChecked
import GoSem.Claim
import GoSem.ClaimJoined
import GoSem.ClaimMapViews
import Derived.JoinedTies
import Derived.KernelRfl
namespace Go.Proofs.Ytepjgaakihhngaa
/- THE CELL 'sum', in the pinned program and in every row, IS THE sha256 OF THE DUMP (.gsa) THAT YtepjgaakihhngaaProg.lean LOADS. Nothing in Lean hashes anything: it is a label: what it is worth is what the hold of that sum in a sandbox is worth. -/
noncomputable def Try.pinned : Pinned := { name := "ytepjgaakihhngaa", sum := "e536fc9fa448c9a343fdad211b8a63b8c9cb942573e5466da4a62e86e27a0b3a", checked := Try.checked }
namespace Rows
def none {H : Type} : Left H := { results := [], args := [] }

/-- 'laws.FnExactWandererOf': WHATEVER THE INPUT: true; the input reads as it did. -/
def fnExactWandererOfSpec : ChangeSpec := { name := "fnExactWandererOf", fn := fun _ => fun
  | [d] => { results := [.lit (.bool true)], args := [d] }
  | _ => none }
def fnExactWandererOfRow : OpenClaim := { program := "ytepjgaakihhngaa", sum := "e536fc9fa448c9a343fdad211b8a63b8c9cb942573e5466da4a62e86e27a0b3a", func := "loop.example/g01134/laws.FnExactWandererOf", spec := "fnExactWandererOf", apart := false }
def FnExactWandererOfSaid : Prop := fnExactWandererOfRow.holds Try.pinned (OpenSpec.ofChange fnExactWandererOfSpec)

/-- ITS FALSE NEIGHBOUR: 'it returns false'. Refute it at one input. -/
def fnExactWandererOfWrong : ChangeSpec := { name := "fnExactWandererOf", fn := fun _ => fun
  | [d] => { results := [.lit (.bool false)], args := [d] }
  | _ => none }
def FnExactWandererOfWrongFalsely : Prop := fnExactWandererOfRow.holds Try.pinned (OpenSpec.ofChange fnExactWandererOfWrong)

/-- 'laws.FnExactManyOf': WHATEVER THE INPUT: true; the input reads as it did. -/
def fnExactManyOfSpec : ChangeSpec := { name := "fnExactManyOf", fn := fun _ => fun
  | [d] => { results := [.lit (.bool true)], args := [d] }
  | _ => none }
def fnExactManyOfRow : OpenClaim := { program := "ytepjgaakihhngaa", sum := "e536fc9fa448c9a343fdad211b8a63b8c9cb942573e5466da4a62e86e27a0b3a", func := "loop.example/g01134/laws.FnExactManyOf", spec := "fnExactManyOf", unfollowed := true, recurses := true, apart := false }
def FnExactManyOfSaid : Prop := fnExactManyOfRow.holds Try.pinned (OpenSpec.ofChange fnExactManyOfSpec)

/-- ITS FALSE NEIGHBOUR: 'it returns false'. Refute it at one input. -/
def fnExactManyOfWrong : ChangeSpec := { name := "fnExactManyOf", fn := fun _ => fun
  | [d] => { results := [.lit (.bool false)], args := [d] }
  | _ => none }
def FnExactManyOfWrongFalsely : Prop := fnExactManyOfRow.holds Try.pinned (OpenSpec.ofChange fnExactManyOfWrong)

/-- 'laws.FnExactModTurner': WHATEVER THE INPUT: true; the input reads as it did. -/
def fnExactModTurnerSpec : ChangeSpec := { name := "fnExactModTurner", fn := fun _ => fun
  | [d1, d2] => { results := [.lit (.bool true)], args := [d1, d2] }
  | _ => none }
def fnExactModTurnerRow : OpenClaim := { program := "ytepjgaakihhngaa", sum := "e536fc9fa448c9a343fdad211b8a63b8c9cb942573e5466da4a62e86e27a0b3a", func := "loop.example/g01134/laws.FnExactModTurner", spec := "fnExactModTurner", apart := false }
def FnExactModTurnerSaid : Prop := fnExactModTurnerRow.holds Try.pinned (OpenSpec.ofChange fnExactModTurnerSpec)

/-- ITS FALSE NEIGHBOUR: 'it returns false'. Refute it at one input. -/
def fnExactModTurnerWrong : ChangeSpec := { name := "fnExactModTurner", fn := fun _ => fun
  | [d1, d2] => { results := [.lit (.bool false)], args := [d1, d2] }
  | _ => none }
def FnExactModTurnerWrongFalsely : Prop := fnExactModTurnerRow.holds Try.pinned (OpenSpec.ofChange fnExactModTurnerWrong)

/-- 'laws.FnExactThenTurner': WHATEVER THE INPUT: true; the input reads as it did. -/
def fnExactThenTurnerSpec : ChangeSpec := { name := "fnExactThenTurner", fn := fun _ => fun
  | [d1, d2] => { results := [.lit (.bool true)], args := [d1, d2] }
  | _ => none }
def fnExactThenTurnerRow : OpenClaim := { program := "ytepjgaakihhngaa", sum := "e536fc9fa448c9a343fdad211b8a63b8c9cb942573e5466da4a62e86e27a0b3a", func := "loop.example/g01134/laws.FnExactThenTurner", spec := "fnExactThenTurner", unfollowed := true, recurses := true, apart := false }
def FnExactThenTurnerSaid : Prop := fnExactThenTurnerRow.holds Try.pinned (OpenSpec.ofChange fnExactThenTurnerSpec)

/-- ITS FALSE NEIGHBOUR: 'it returns false'. Refute it at one input. -/
def fnExactThenTurnerWrong : ChangeSpec := { name := "fnExactThenTurner", fn := fun _ => fun
  | [d1, d2] => { results := [.lit (.bool false)], args := [d1, d2] }
  | _ => none }
def FnExactThenTurnerWrongFalsely : Prop := fnExactThenTurnerRow.holds Try.pinned (OpenSpec.ofChange fnExactThenTurnerWrong)

/-- 'laws.FnExactTurnMany': WHATEVER THE INPUT: true; the input reads as it did. -/
def fnExactTurnManySpec : ChangeSpec := { name := "fnExactTurnMany", fn := fun _ => fun
  | [d] => { results := [.lit (.bool true)], args := [d] }
  | _ => none }
def fnExactTurnManyRow : OpenClaim := { program := "ytepjgaakihhngaa", sum := "e536fc9fa448c9a343fdad211b8a63b8c9cb942573e5466da4a62e86e27a0b3a", func := "loop.example/g01134/laws.FnExactTurnMany", spec := "fnExactTurnMany", unfollowed := true, recurses := true, apart := false }
def FnExactTurnManySaid : Prop := fnExactTurnManyRow.holds Try.pinned (OpenSpec.ofChange fnExactTurnManySpec)

/-- ITS FALSE NEIGHBOUR: 'it returns false'. Refute it at one input. -/
def fnExactTurnManyWrong : ChangeSpec := { name := "fnExactTurnMany", fn := fun _ => fun
  | [d] => { results := [.lit (.bool false)], args := [d] }
  | _ => none }
def FnExactTurnManyWrongFalsely : Prop := fnExactTurnManyRow.holds Try.pinned (OpenSpec.ofChange fnExactTurnManyWrong)

/-- 'laws.FnExactTurnedReader': WHATEVER THE INPUT: true; the input reads as it did. -/
def fnExactTurnedReaderSpec : ChangeSpec := { name := "fnExactTurnedReader", fn := fun _ => fun
  | [d] => { results := [.lit (.bool true)], args := [d] }
  | _ => none }
def fnExactTurnedReaderRow : OpenClaim := { program := "ytepjgaakihhngaa", sum := "e536fc9fa448c9a343fdad211b8a63b8c9cb942573e5466da4a62e86e27a0b3a", func := "loop.example/g01134/laws.FnExactTurnedReader", spec := "fnExactTurnedReader", unfollowed := true, recurses := true, apart := false }
def FnExactTurnedReaderSaid : Prop := fnExactTurnedReaderRow.holds Try.pinned (OpenSpec.ofChange fnExactTurnedReaderSpec)

/-- ITS FALSE NEIGHBOUR: 'it returns false'. Refute it at one input. -/
def fnExactTurnedReaderWrong : ChangeSpec := { name := "fnExactTurnedReader", fn := fun _ => fun
  | [d] => { results := [.lit (.bool false)], args := [d] }
  | _ => none }
def FnExactTurnedReaderWrongFalsely : Prop := fnExactTurnedReaderRow.holds Try.pinned (OpenSpec.ofChange fnExactTurnedReaderWrong)

/-- 'laws.FnExactVerdictBy': WHATEVER THE INPUT: true; the input reads as it did. -/
def fnExactVerdictBySpec : ChangeSpec := { name := "fnExactVerdictBy", fn := fun _ => fun
  | [d1, d2] => { results := [.lit (.bool true)], args := [d1, d2] }
  | _ => none }
def fnExactVerdictByRow : OpenClaim := { program := "ytepjgaakihhngaa", sum := "e536fc9fa448c9a343fdad211b8a63b8c9cb942573e5466da4a62e86e27a0b3a", func := "loop.example/g01134/laws.FnExactVerdictBy", spec := "fnExactVerdictBy", unfollowed := true, recurses := true, apart := false }
def FnExactVerdictBySaid : Prop := fnExactVerdictByRow.holds Try.pinned (OpenSpec.ofChange fnExactVerdictBySpec)

/-- ITS FALSE NEIGHBOUR: 'it returns false'. Refute it at one input. -/
def fnExactVerdictByWrong : ChangeSpec := { name := "fnExactVerdictBy", fn := fun _ => fun
  | [d1, d2] => { results := [.lit (.bool false)], args := [d1, d2] }
  | _ => none }
def FnExactVerdictByWrongFalsely : Prop := fnExactVerdictByRow.holds Try.pinned (OpenSpec.ofChange fnExactVerdictByWrong)

/-- 'laws.FnExactEitherWanderer': WHATEVER THE INPUT: true; the input reads as it did. -/
def fnExactEitherWandererSpec : ChangeSpec := { name := "fnExactEitherWanderer", fn := fun _ => fun
  | [d1, d2] => { results := [.lit (.bool true)], args := [d1, d2] }
  | _ => none }
def fnExactEitherWandererRow : OpenClaim := { program := "ytepjgaakihhngaa", sum := "e536fc9fa448c9a343fdad211b8a63b8c9cb942573e5466da4a62e86e27a0b3a", func := "loop.example/g01134/laws.FnExactEitherWanderer", spec := "fnExactEitherWanderer", apart := false }
def FnExactEitherWandererSaid : Prop := fnExactEitherWandererRow.holds Try.pinned (OpenSpec.ofChange fnExactEitherWandererSpec)

/-- ITS FALSE NEIGHBOUR: 'it returns false'. Refute it at one input. -/
def fnExactEitherWandererWrong : ChangeSpec := { name := "fnExactEitherWanderer", fn := fun _ => fun
  | [d1, d2] => { results := [.lit (.bool false)], args := [d1, d2] }
  | _ => none }
def FnExactEitherWandererWrongFalsely : Prop := fnExactEitherWandererRow.holds Try.pinned (OpenSpec.ofChange fnExactEitherWandererWrong)

/- THE SECOND FORM. 'bulk': how many values and letters a reading holds, each counted each time it is reached (what is shared counts as often as it is met; a slice's spare places count too). A statement '..UptoSaid' is the law's where the arguments, and the package variables that the reading takes, are together of bulk at most 1048576: NARROWER than '..Said'. Prove '..Said' where nothing that the law and all that it calls make is longer than what came in: it says more and counts as full. Else prove '..UptoSaid'. A law counts once. -/
mutual
def uptoBulk {H : Type} : DataW H → Nat
  | .lit (.string bytes) => bytes.length + 1
  | .lit _ => 1
  | .nil => 1
  | .ptr d => uptoBulk d + 1
  | .slice elems spare => uptoBulkAll elems + uptoBulkAll spare + 1
  | .agg parts => uptoBulkAll parts + 1
  | .iface _ d => uptoBulk d + 1
  | .map entries => uptoBulkEntries entries + 1
  | .held _ => 1
def uptoBulkAll {H : Type} : List (DataW H) → Nat
  | [] => 0
  | d :: r => uptoBulk d + uptoBulkAll r
def uptoBulkEntries {H : Type} : List (Lit × DataW H) → Nat
  | [] => 0
  | x :: r => uptoBulkEntry x + uptoBulkEntries r
def uptoBulkEntry {H : Type} : Lit × DataW H → Nat
  | (.string bytes, d) => bytes.length + uptoBulk d + 1
  | (_, d) => uptoBulk d + 1
 end
def uptoSmall : (H : Type) → List (DataW H) → Bool := fun _ ds => decide (uptoBulkAll ds ≤ 1048576)
def OpenSpec.upto (s : _root_.Go.ChangeSpec) : _root_.Go.OpenSpec := { _root_.Go.OpenSpec.ofChange s with cond := some uptoSmall }

/-- 'laws.FnExactWandererOf', WHERE WHAT IT READS IS OF BULK AT MOST 1048576: true; the input reads as it did. -/
def fnExactWandererOfUptoRow : OpenClaim := { program := "ytepjgaakihhngaa", sum := "e536fc9fa448c9a343fdad211b8a63b8c9cb942573e5466da4a62e86e27a0b3a", func := "loop.example/g01134/laws.FnExactWandererOf", spec := "fnExactWandererOf", apart := false, narrowed := true }
def FnExactWandererOfUptoSaid : Prop := fnExactWandererOfUptoRow.holds Try.pinned (OpenSpec.upto fnExactWandererOfSpec)

/-- 'laws.FnExactManyOf', WHERE WHAT IT READS IS OF BULK AT MOST 1048576: true; the input reads as it did. -/
def fnExactManyOfUptoRow : OpenClaim := { program := "ytepjgaakihhngaa", sum := "e536fc9fa448c9a343fdad211b8a63b8c9cb942573e5466da4a62e86e27a0b3a", func := "loop.example/g01134/laws.FnExactManyOf", spec := "fnExactManyOf", unfollowed := true, recurses := true, apart := false, narrowed := true }
def FnExactManyOfUptoSaid : Prop := fnExactManyOfUptoRow.holds Try.pinned (OpenSpec.upto fnExactManyOfSpec)

/-- 'laws.FnExactModTurner', WHERE WHAT IT READS IS OF BULK AT MOST 1048576: true; the input reads as it did. -/
def fnExactModTurnerUptoRow : OpenClaim := { program := "ytepjgaakihhngaa", sum := "e536fc9fa448c9a343fdad211b8a63b8c9cb942573e5466da4a62e86e27a0b3a", func := "loop.example/g01134/laws.FnExactModTurner", spec := "fnExactModTurner", apart := false, narrowed := true }
def FnExactModTurnerUptoSaid : Prop := fnExactModTurnerUptoRow.holds Try.pinned (OpenSpec.upto fnExactModTurnerSpec)

/-- 'laws.FnExactThenTurner', WHERE WHAT IT READS IS OF BULK AT MOST 1048576: true; the input reads as it did. -/
def fnExactThenTurnerUptoRow : OpenClaim := { program := "ytepjgaakihhngaa", sum := "e536fc9fa448c9a343fdad211b8a63b8c9cb942573e5466da4a62e86e27a0b3a", func := "loop.example/g01134/laws.FnExactThenTurner", spec := "fnExactThenTurner", unfollowed := true, recurses := true, apart := false, narrowed := true }
def FnExactThenTurnerUptoSaid : Prop := fnExactThenTurnerUptoRow.holds Try.pinned (OpenSpec.upto fnExactThenTurnerSpec)

/-- 'laws.FnExactTurnMany', WHERE WHAT IT READS IS OF BULK AT MOST 1048576: true; the input reads as it did. -/
def fnExactTurnManyUptoRow : OpenClaim := { program := "ytepjgaakihhngaa", sum := "e536fc9fa448c9a343fdad211b8a63b8c9cb942573e5466da4a62e86e27a0b3a", func := "loop.example/g01134/laws.FnExactTurnMany", spec := "fnExactTurnMany", unfollowed := true, recurses := true, apart := false, narrowed := true }
def FnExactTurnManyUptoSaid : Prop := fnExactTurnManyUptoRow.holds Try.pinned (OpenSpec.upto fnExactTurnManySpec)

/-- 'laws.FnExactTurnedReader', WHERE WHAT IT READS IS OF BULK AT MOST 1048576: true; the input reads as it did. -/
def fnExactTurnedReaderUptoRow : OpenClaim := { program := "ytepjgaakihhngaa", sum := "e536fc9fa448c9a343fdad211b8a63b8c9cb942573e5466da4a62e86e27a0b3a", func := "loop.example/g01134/laws.FnExactTurnedReader", spec := "fnExactTurnedReader", unfollowed := true, recurses := true, apart := false, narrowed := true }
def FnExactTurnedReaderUptoSaid : Prop := fnExactTurnedReaderUptoRow.holds Try.pinned (OpenSpec.upto fnExactTurnedReaderSpec)

/-- 'laws.FnExactVerdictBy', WHERE WHAT IT READS IS OF BULK AT MOST 1048576: true; the input reads as it did. -/
def fnExactVerdictByUptoRow : OpenClaim := { program := "ytepjgaakihhngaa", sum := "e536fc9fa448c9a343fdad211b8a63b8c9cb942573e5466da4a62e86e27a0b3a", func := "loop.example/g01134/laws.FnExactVerdictBy", spec := "fnExactVerdictBy", unfollowed := true, recurses := true, apart := false, narrowed := true }
def FnExactVerdictByUptoSaid : Prop := fnExactVerdictByUptoRow.holds Try.pinned (OpenSpec.upto fnExactVerdictBySpec)

/-- 'laws.FnExactEitherWanderer', WHERE WHAT IT READS IS OF BULK AT MOST 1048576: true; the input reads as it did. -/
def fnExactEitherWandererUptoRow : OpenClaim := { program := "ytepjgaakihhngaa", sum := "e536fc9fa448c9a343fdad211b8a63b8c9cb942573e5466da4a62e86e27a0b3a", func := "loop.example/g01134/laws.FnExactEitherWanderer", spec := "fnExactEitherWanderer", apart := false, narrowed := true }
def FnExactEitherWandererUptoSaid : Prop := fnExactEitherWandererUptoRow.holds Try.pinned (OpenSpec.upto fnExactEitherWandererSpec)

end Rows
end Go.Proofs.Ytepjgaakihhngaa
