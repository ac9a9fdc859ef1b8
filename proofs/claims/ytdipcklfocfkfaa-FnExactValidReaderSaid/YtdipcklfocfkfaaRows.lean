/-
  No cell of these rows narrows 'for every input' (looked for: loops, veiled, ifaces, maps, wideKeys, modest, calm, conditions, laid).
  DERIVED. THE GIVEN ROWS OF THIS SEAT. 6 by the template 'for every input the law returns true; each argument reads behind the call as it read before'; 0 by the template 'total and deterministic' (their statements: YtdipcklfocfkfaaTotals.lean).
  GIVEN WITH THE SEED: the statements are not yours to turn. If you find one false, say at which input.
  Laid BY PROGRAM, IN A SANDBOX (cutbox-rows.mjs): the forced cells as the released guide's own fill.sh prints them over the translation 3cfa87893cca1dac… (all of the seat's roots in one cut). By AI agents, Wed Nov 11 2026. No macro, syntax, notation, axiom, sorry.
-/
import Derived.Test.YtdipcklfocfkfaaChecked
import GoSem.Claim
import GoSem.ClaimJoined
import GoSem.ClaimMapViews
import Derived.JoinedTies
import Derived.KernelRfl
namespace Go.Proofs.Ytdipcklfocfkfaa
/- THE CELL 'sum', in the pinned program and in every row, IS THE sha256 OF THE DUMP (.gsa) THAT YtdipcklfocfkfaaProg.lean LOADS. Nothing in Lean hashes anything: it is a label: what it is worth is what the hold of that sum in a sandbox is worth. -/
noncomputable def Try.pinned : Pinned := { name := "ytdipcklfocfkfaa", sum := "3cfa87893cca1daca701ad2babc44412249d9f7421912b8b7b80a18b65d5b629", checked := Try.checked }
namespace Rows
def none {H : Type} : Left H := { results := [], args := [] }

/-- 'laws.FnExactSameTurner': WHATEVER THE INPUT: true; the input reads as it did. -/
def fnExactSameTurnerSpec : ChangeSpec := { name := "fnExactSameTurner", fn := fun _ => fun
  | [d1, d2] => { results := [.lit (.bool true)], args := [d1, d2] }
  | _ => none }
def fnExactSameTurnerRow : OpenClaim := { program := "ytdipcklfocfkfaa", sum := "3cfa87893cca1daca701ad2babc44412249d9f7421912b8b7b80a18b65d5b629", func := "loop.example/g01134/laws.FnExactSameTurner", spec := "fnExactSameTurner", unfollowed := true, recurses := true, apart := false }
def FnExactSameTurnerSaid : Prop := fnExactSameTurnerRow.holds Try.pinned (OpenSpec.ofChange fnExactSameTurnerSpec)

/-- ITS FALSE NEIGHBOUR: 'it returns false'. Refute it at one input. -/
def fnExactSameTurnerWrong : ChangeSpec := { name := "fnExactSameTurner", fn := fun _ => fun
  | [d1, d2] => { results := [.lit (.bool false)], args := [d1, d2] }
  | _ => none }
def FnExactSameTurnerWrongFalsely : Prop := fnExactSameTurnerRow.holds Try.pinned (OpenSpec.ofChange fnExactSameTurnerWrong)

/-- 'laws.FnExactValidTurner': WHATEVER THE INPUT: true; the input reads as it did. -/
def fnExactValidTurnerSpec : ChangeSpec := { name := "fnExactValidTurner", fn := fun _ => fun
  | [d] => { results := [.lit (.bool true)], args := [d] }
  | _ => none }
def fnExactValidTurnerRow : OpenClaim := { program := "ytdipcklfocfkfaa", sum := "3cfa87893cca1daca701ad2babc44412249d9f7421912b8b7b80a18b65d5b629", func := "loop.example/g01134/laws.FnExactValidTurner", spec := "fnExactValidTurner", apart := false }
def FnExactValidTurnerSaid : Prop := fnExactValidTurnerRow.holds Try.pinned (OpenSpec.ofChange fnExactValidTurnerSpec)

/-- ITS FALSE NEIGHBOUR: 'it returns false'. Refute it at one input. -/
def fnExactValidTurnerWrong : ChangeSpec := { name := "fnExactValidTurner", fn := fun _ => fun
  | [d] => { results := [.lit (.bool false)], args := [d] }
  | _ => none }
def FnExactValidTurnerWrongFalsely : Prop := fnExactValidTurnerRow.holds Try.pinned (OpenSpec.ofChange fnExactValidTurnerWrong)

/-- 'laws.FnExactTurnTable': WHATEVER THE INPUT: true; the input reads as it did. -/
def fnExactTurnTableSpec : ChangeSpec := { name := "fnExactTurnTable", fn := fun _ => fun
  | [d] => { results := [.lit (.bool true)], args := [d] }
  | _ => none }
def fnExactTurnTableRow : OpenClaim := { program := "ytdipcklfocfkfaa", sum := "3cfa87893cca1daca701ad2babc44412249d9f7421912b8b7b80a18b65d5b629", func := "loop.example/g01134/laws.FnExactTurnTable", spec := "fnExactTurnTable", unfollowed := true, recurses := true, apart := false }
def FnExactTurnTableSaid : Prop := fnExactTurnTableRow.holds Try.pinned (OpenSpec.ofChange fnExactTurnTableSpec)

/-- ITS FALSE NEIGHBOUR: 'it returns false'. Refute it at one input. -/
def fnExactTurnTableWrong : ChangeSpec := { name := "fnExactTurnTable", fn := fun _ => fun
  | [d] => { results := [.lit (.bool false)], args := [d] }
  | _ => none }
def FnExactTurnTableWrongFalsely : Prop := fnExactTurnTableRow.holds Try.pinned (OpenSpec.ofChange fnExactTurnTableWrong)

/-- 'laws.FnExactJoinTables': WHATEVER THE INPUT: true; the input reads as it did. -/
def fnExactJoinTablesSpec : ChangeSpec := { name := "fnExactJoinTables", fn := fun _ => fun
  | [d1, d2] => { results := [.lit (.bool true)], args := [d1, d2] }
  | _ => none }
def fnExactJoinTablesRow : OpenClaim := { program := "ytdipcklfocfkfaa", sum := "3cfa87893cca1daca701ad2babc44412249d9f7421912b8b7b80a18b65d5b629", func := "loop.example/g01134/laws.FnExactJoinTables", spec := "fnExactJoinTables", unfollowed := true, recurses := true, apart := false }
def FnExactJoinTablesSaid : Prop := fnExactJoinTablesRow.holds Try.pinned (OpenSpec.ofChange fnExactJoinTablesSpec)

/-- ITS FALSE NEIGHBOUR: 'it returns false'. Refute it at one input. -/
def fnExactJoinTablesWrong : ChangeSpec := { name := "fnExactJoinTables", fn := fun _ => fun
  | [d1, d2] => { results := [.lit (.bool false)], args := [d1, d2] }
  | _ => none }
def FnExactJoinTablesWrongFalsely : Prop := fnExactJoinTablesRow.holds Try.pinned (OpenSpec.ofChange fnExactJoinTablesWrong)

/-- 'laws.FnExactSameReader': WHATEVER THE INPUT: true; the input reads as it did. -/
def fnExactSameReaderSpec : ChangeSpec := { name := "fnExactSameReader", fn := fun _ => fun
  | [d1, d2] => { results := [.lit (.bool true)], args := [d1, d2] }
  | _ => none }
def fnExactSameReaderRow : OpenClaim := { program := "ytdipcklfocfkfaa", sum := "3cfa87893cca1daca701ad2babc44412249d9f7421912b8b7b80a18b65d5b629", func := "loop.example/g01134/laws.FnExactSameReader", spec := "fnExactSameReader", unfollowed := true, recurses := true, apart := false }
def FnExactSameReaderSaid : Prop := fnExactSameReaderRow.holds Try.pinned (OpenSpec.ofChange fnExactSameReaderSpec)

/-- ITS FALSE NEIGHBOUR: 'it returns false'. Refute it at one input. -/
def fnExactSameReaderWrong : ChangeSpec := { name := "fnExactSameReader", fn := fun _ => fun
  | [d1, d2] => { results := [.lit (.bool false)], args := [d1, d2] }
  | _ => none }
def FnExactSameReaderWrongFalsely : Prop := fnExactSameReaderRow.holds Try.pinned (OpenSpec.ofChange fnExactSameReaderWrong)

/-- 'laws.FnExactValidReader': WHATEVER THE INPUT: true; the input reads as it did. -/
def fnExactValidReaderSpec : ChangeSpec := { name := "fnExactValidReader", fn := fun _ => fun
  | [d] => { results := [.lit (.bool true)], args := [d] }
  | _ => none }
def fnExactValidReaderRow : OpenClaim := { program := "ytdipcklfocfkfaa", sum := "3cfa87893cca1daca701ad2babc44412249d9f7421912b8b7b80a18b65d5b629", func := "loop.example/g01134/laws.FnExactValidReader", spec := "fnExactValidReader", unfollowed := true, recurses := true, apart := false }
def FnExactValidReaderSaid : Prop := fnExactValidReaderRow.holds Try.pinned (OpenSpec.ofChange fnExactValidReaderSpec)

/-- ITS FALSE NEIGHBOUR: 'it returns false'. Refute it at one input. -/
def fnExactValidReaderWrong : ChangeSpec := { name := "fnExactValidReader", fn := fun _ => fun
  | [d] => { results := [.lit (.bool false)], args := [d] }
  | _ => none }
def FnExactValidReaderWrongFalsely : Prop := fnExactValidReaderRow.holds Try.pinned (OpenSpec.ofChange fnExactValidReaderWrong)

/- THE SECOND FORM. 'bulk': how many values and letters a reading holds, each counted each time it is reached (what is shared counts as often as it is met; a slice's spare places count too). A statement '..UptoSaid' is the law's where the arguments, and the package variables that the reading takes, are together of bulk at most 1048576: NARROWER than '..Said'. Prove '..Said' where nothing that the law and all that it calls make is longer than what came in: it says more and counts as full. Else prove '..UptoSaid'. A law counts once. -/
mutual
def uptoBulk {H : Type} : DataW H → Nat
  | .lit (.string bytes) => bytes.length + 1
  | .lit _ => 1
  | .nil => 1
  | .ptr d => uptoBulk d + 1
  | .slice elems spare => uptoBulkAll elems + uptoBulkAll spare + 1
  | .agg parts => uptoBulkAll parts + 1
  | .iface _ d => uptoBulk d + 1
  | .map entries => uptoBulkEntries entries + 1
  | .held _ => 1
def uptoBulkAll {H : Type} : List (DataW H) → Nat
  | [] => 0
  | d :: r => uptoBulk d + uptoBulkAll r
def uptoBulkEntries {H : Type} : List (Lit × DataW H) → Nat
  | [] => 0
  | x :: r => uptoBulkEntry x + uptoBulkEntries r
def uptoBulkEntry {H : Type} : Lit × DataW H → Nat
  | (.string bytes, d) => bytes.length + uptoBulk d + 1
  | (_, d) => uptoBulk d + 1
 end
def uptoSmall : (H : Type) → List (DataW H) → Bool := fun _ ds => decide (uptoBulkAll ds ≤ 1048576)
def OpenSpec.upto (s : _root_.Go.ChangeSpec) : _root_.Go.OpenSpec := { _root_.Go.OpenSpec.ofChange s with cond := some uptoSmall }

/-- 'laws.FnExactSameTurner', WHERE WHAT IT READS IS OF BULK AT MOST 1048576: true; the input reads as it did. -/
def fnExactSameTurnerUptoRow : OpenClaim := { program := "ytdipcklfocfkfaa", sum := "3cfa87893cca1daca701ad2babc44412249d9f7421912b8b7b80a18b65d5b629", func := "loop.example/g01134/laws.FnExactSameTurner", spec := "fnExactSameTurner", unfollowed := true, recurses := true, apart := false, narrowed := true }
def FnExactSameTurnerUptoSaid : Prop := fnExactSameTurnerUptoRow.holds Try.pinned (OpenSpec.upto fnExactSameTurnerSpec)

/-- 'laws.FnExactValidTurner', WHERE WHAT IT READS IS OF BULK AT MOST 1048576: true; the input reads as it did. -/
def fnExactValidTurnerUptoRow : OpenClaim := { program := "ytdipcklfocfkfaa", sum := "3cfa87893cca1daca701ad2babc44412249d9f7421912b8b7b80a18b65d5b629", func := "loop.example/g01134/laws.FnExactValidTurner", spec := "fnExactValidTurner", apart := false, narrowed := true }
def FnExactValidTurnerUptoSaid : Prop := fnExactValidTurnerUptoRow.holds Try.pinned (OpenSpec.upto fnExactValidTurnerSpec)

/-- 'laws.FnExactTurnTable', WHERE WHAT IT READS IS OF BULK AT MOST 1048576: true; the input reads as it did. -/
def fnExactTurnTableUptoRow : OpenClaim := { program := "ytdipcklfocfkfaa", sum := "3cfa87893cca1daca701ad2babc44412249d9f7421912b8b7b80a18b65d5b629", func := "loop.example/g01134/laws.FnExactTurnTable", spec := "fnExactTurnTable", unfollowed := true, recurses := true, apart := false, narrowed := true }
def FnExactTurnTableUptoSaid : Prop := fnExactTurnTableUptoRow.holds Try.pinned (OpenSpec.upto fnExactTurnTableSpec)

/-- 'laws.FnExactJoinTables', WHERE WHAT IT READS IS OF BULK AT MOST 1048576: true; the input reads as it did. -/
def fnExactJoinTablesUptoRow : OpenClaim := { program := "ytdipcklfocfkfaa", sum := "3cfa87893cca1daca701ad2babc44412249d9f7421912b8b7b80a18b65d5b629", func := "loop.example/g01134/laws.FnExactJoinTables", spec := "fnExactJoinTables", unfollowed := true, recurses := true, apart := false, narrowed := true }
def FnExactJoinTablesUptoSaid : Prop := fnExactJoinTablesUptoRow.holds Try.pinned (OpenSpec.upto fnExactJoinTablesSpec)

/-- 'laws.FnExactSameReader', WHERE WHAT IT READS IS OF BULK AT MOST 1048576: true; the input reads as it did. -/
def fnExactSameReaderUptoRow : OpenClaim := { program := "ytdipcklfocfkfaa", sum := "3cfa87893cca1daca701ad2babc44412249d9f7421912b8b7b80a18b65d5b629", func := "loop.example/g01134/laws.FnExactSameReader", spec := "fnExactSameReader", unfollowed := true, recurses := true, apart := false, narrowed := true }
def FnExactSameReaderUptoSaid : Prop := fnExactSameReaderUptoRow.holds Try.pinned (OpenSpec.upto fnExactSameReaderSpec)

/-- 'laws.FnExactValidReader', WHERE WHAT IT READS IS OF BULK AT MOST 1048576: true; the input reads as it did. -/
def fnExactValidReaderUptoRow : OpenClaim := { program := "ytdipcklfocfkfaa", sum := "3cfa87893cca1daca701ad2babc44412249d9f7421912b8b7b80a18b65d5b629", func := "loop.example/g01134/laws.FnExactValidReader", spec := "fnExactValidReader", unfollowed := true, recurses := true, apart := false, narrowed := true }
def FnExactValidReaderUptoSaid : Prop := fnExactValidReaderUptoRow.holds Try.pinned (OpenSpec.upto fnExactValidReaderSpec)

end Rows
end Go.Proofs.Ytdipcklfocfkfaa
