/-
  No cell of these rows narrows 'for every input' (looked for: loops, veiled, ifaces, maps, wideKeys, modest, calm, conditions, laid).
  DERIVED. THE GIVEN ROWS OF THIS SEAT. 2 by the template 'for every input the law returns true; each argument reads behind the call as it read before'; 0 by the template 'total and deterministic' (their statements: YtpknkaidmefenaaTotals.lean).
  GIVEN WITH THE SEED: the statements are not yours to turn. If you find one false, say at which input.
  Laid BY PROGRAM, IN A SANDBOX (cutbox-rows.mjs): the forced cells as the released guide's own fill.sh prints them over the translation 41a70e76f2a0fa8c… (all of the seat's roots in one cut). By AI agents, Wed Nov 11 2026. No macro, syntax, notation, axiom, sorry.
-/
import Derived.Test.YtpknkaidmefenaaChecked
import GoSem.Claim
import GoSem.ClaimJoined
import GoSem.ClaimMapViews
import Derived.JoinedTies
import Derived.KernelRfl
namespace Go.Proofs.Ytpknkaidmefenaa
/- THE CELL 'sum', in the pinned program and in every row, IS THE sha256 OF THE DUMP (.gsa) THAT YtpknkaidmefenaaProg.lean LOADS. Nothing in Lean hashes anything: it is a label: what it is worth is what the hold of that sum in a sandbox is worth. -/
noncomputable def Try.pinned : Pinned := { name := "ytpknkaidmefenaa", sum := "41a70e76f2a0fa8c8430ef1ac6ac1016eb900de33242be88b257030ac14dbb24", checked := Try.checked }
namespace Rows
def none {H : Type} : Left H := { results := [], args := [] }

/-- 'laws.FnExactFirstUnlike': WHATEVER THE INPUT: true; the input reads as it did. -/
def fnExactFirstUnlikeSpec : ChangeSpec := { name := "fnExactFirstUnlike", fn := fun _ => fun
  | [d1, d2] => { results := [.lit (.bool true)], args := [d1, d2] }
  | _ => none }
def fnExactFirstUnlikeRow : OpenClaim := { program := "ytpknkaidmefenaa", sum := "41a70e76f2a0fa8c8430ef1ac6ac1016eb900de33242be88b257030ac14dbb24", func := "loop.example/g01134/laws.FnExactFirstUnlike", spec := "fnExactFirstUnlike", unfollowed := true, recurses := true, plainKeys := false, apart := false }
def FnExactFirstUnlikeSaid : Prop := fnExactFirstUnlikeRow.holds Try.pinned (OpenSpec.ofChange fnExactFirstUnlikeSpec)

/-- ITS FALSE NEIGHBOUR: 'it returns false'. Refute it at one input. -/
def fnExactFirstUnlikeWrong : ChangeSpec := { name := "fnExactFirstUnlike", fn := fun _ => fun
  | [d1, d2] => { results := [.lit (.bool false)], args := [d1, d2] }
  | _ => none }
def FnExactFirstUnlikeWrongFalsely : Prop := fnExactFirstUnlikeRow.holds Try.pinned (OpenSpec.ofChange fnExactFirstUnlikeWrong)

/-- 'laws.FnExactEitherWanderer': WHATEVER THE INPUT: true; the input reads as it did. -/
def fnExactEitherWandererSpec : ChangeSpec := { name := "fnExactEitherWanderer", fn := fun _ => fun
  | [d1, d2] => { results := [.lit (.bool true)], args := [d1, d2] }
  | _ => none }
def fnExactEitherWandererRow : OpenClaim := { program := "ytpknkaidmefenaa", sum := "41a70e76f2a0fa8c8430ef1ac6ac1016eb900de33242be88b257030ac14dbb24", func := "loop.example/g01134/laws.FnExactEitherWanderer", spec := "fnExactEitherWanderer", plainKeys := false, apart := false }
def FnExactEitherWandererSaid : Prop := fnExactEitherWandererRow.holds Try.pinned (OpenSpec.ofChange fnExactEitherWandererSpec)

/-- ITS FALSE NEIGHBOUR: 'it returns false'. Refute it at one input. -/
def fnExactEitherWandererWrong : ChangeSpec := { name := "fnExactEitherWanderer", fn := fun _ => fun
  | [d1, d2] => { results := [.lit (.bool false)], args := [d1, d2] }
  | _ => none }
def FnExactEitherWandererWrongFalsely : Prop := fnExactEitherWandererRow.holds Try.pinned (OpenSpec.ofChange fnExactEitherWandererWrong)

/- THE SECOND FORM. 'bulk': how many values and letters a reading holds, each counted each time it is reached (what is shared counts as often as it is met; a slice's spare places count too). A statement '..UptoSaid' is the law's where the arguments, and the package variables that the reading takes, are together of bulk at most 1048576: NARROWER than '..Said'. Prove '..Said' where nothing that the law and all that it calls make is longer than what came in: it says more and counts as full. Else prove '..UptoSaid'. A law counts once. -/
mutual
def uptoBulk {H : Type} : DataW H → Nat
  | .lit (.string bytes) => bytes.length + 1
  | .lit _ => 1
  | .nil => 1
  | .ptr d => uptoBulk d + 1
  | .slice elems spare => uptoBulkAll elems + uptoBulkAll spare + 1
  | .agg parts => uptoBulkAll parts + 1
  | .iface _ d => uptoBulk d + 1
  | .map entries => uptoBulkEntries entries + 1
  | .held _ => 1
def uptoBulkAll {H : Type} : List (DataW H) → Nat
  | [] => 0
  | d :: r => uptoBulk d + uptoBulkAll r
def uptoBulkEntries {H : Type} : List (Lit × DataW H) → Nat
  | [] => 0
  | x :: r => uptoBulkEntry x + uptoBulkEntries r
def uptoBulkEntry {H : Type} : Lit × DataW H → Nat
  | (.string bytes, d) => bytes.length + uptoBulk d + 1
  | (_, d) => uptoBulk d + 1
 end
def uptoSmall : (H : Type) → List (DataW H) → Bool := fun _ ds => decide (uptoBulkAll ds ≤ 1048576)
def OpenSpec.upto (s : _root_.Go.ChangeSpec) : _root_.Go.OpenSpec := { _root_.Go.OpenSpec.ofChange s with cond := some uptoSmall }

/-- 'laws.FnExactFirstUnlike', WHERE WHAT IT READS IS OF BULK AT MOST 1048576: true; the input reads as it did. -/
def fnExactFirstUnlikeUptoRow : OpenClaim := { program := "ytpknkaidmefenaa", sum := "41a70e76f2a0fa8c8430ef1ac6ac1016eb900de33242be88b257030ac14dbb24", func := "loop.example/g01134/laws.FnExactFirstUnlike", spec := "fnExactFirstUnlike", unfollowed := true, recurses := true, plainKeys := false, apart := false, narrowed := true }
def FnExactFirstUnlikeUptoSaid : Prop := fnExactFirstUnlikeUptoRow.holds Try.pinned (OpenSpec.upto fnExactFirstUnlikeSpec)

/-- 'laws.FnExactEitherWanderer', WHERE WHAT IT READS IS OF BULK AT MOST 1048576: true; the input reads as it did. -/
def fnExactEitherWandererUptoRow : OpenClaim := { program := "ytpknkaidmefenaa", sum := "41a70e76f2a0fa8c8430ef1ac6ac1016eb900de33242be88b257030ac14dbb24", func := "loop.example/g01134/laws.FnExactEitherWanderer", spec := "fnExactEitherWanderer", plainKeys := false, apart := false, narrowed := true }
def FnExactEitherWandererUptoSaid : Prop := fnExactEitherWandererUptoRow.holds Try.pinned (OpenSpec.upto fnExactEitherWandererSpec)

end Rows
end Go.Proofs.Ytpknkaidmefenaa
