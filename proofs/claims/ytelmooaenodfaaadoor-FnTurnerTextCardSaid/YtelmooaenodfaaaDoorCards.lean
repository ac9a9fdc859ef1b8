/-
  DERIVED. GIVEN WITH THE SEED: THE CARDS: each row of YtelmooaenodfaaaDoorRows.lean that lists a variable, with what it lists TIED to the program's text (the seventh form; the later family's looks); each row that meets fmt, with fmt's text TOLD by the authors' own Lean function (tested against real Go, not proved from fmt's source: count such statements apart). THE CARD IS WHAT COUNTS. Prove the row's statement (the work); the ties are given (YtelmooaenodfaaaDoorTie.lean); close each card by the builder's one call (the guide's Derived/Test/ToyasCard.lean, 'card_holds'). Laid BY PROGRAM, IN A SANDBOX (cutbox-door.mjs). By AI agents, Wed Nov 11 2026. No macro, syntax, notation, axiom, sorry.
-/
import Derived.Test.YtelmooaenodfaaaDoorRows
import GoSem.ClaimSeven
namespace Go.Proofs.YtelmooaenodfaaaDoor
namespace Rows

/-- THE TIED CARD OF 'laws.FnExactReadTable'. -/
def fnExactReadTableCard : Claim7 := { stood := { row := fnExactReadTableRow, standIns := [], harness := (true, "ce75dbeca2ad707b160783fb5411bcfd2d0e25d890ec2dc839d5d348d2540bad"), looks := true }, kinds := [], alts := [], laidByText := true, laidKinds := [.data, .data, .data, .data, .sentinel, .sentinel, .pinned], laidTests := true, laidLooks := .later }
def FnExactReadTableCardSaid : Prop := Claim7.holds Tryd.pinned (.plain (OpenSpec.ofChange fnExactReadTableSpec)) fnExactReadTableCard

/-- THE TIED CARD OF 'laws.FnExactReadReader'. -/
def fnExactReadReaderCard : Claim7 := { stood := { row := fnExactReadReaderRow, standIns := [], harness := (true, "ce75dbeca2ad707b160783fb5411bcfd2d0e25d890ec2dc839d5d348d2540bad"), looks := true }, kinds := [], alts := [], laidByText := true, laidKinds := [.data, .data, .data, .data, .sentinel, .sentinel, .pinned], laidTests := true, laidLooks := .later }
def FnExactReadReaderCardSaid : Prop := Claim7.holds Tryd.pinned (.plain (OpenSpec.ofChange fnExactReadReaderSpec)) fnExactReadReaderCard

/-- THE TIED CARD OF 'laws.FnExactReadTurner'. -/
def fnExactReadTurnerCard : Claim7 := { stood := { row := fnExactReadTurnerRow, standIns := [], harness := (true, "ce75dbeca2ad707b160783fb5411bcfd2d0e25d890ec2dc839d5d348d2540bad"), looks := true }, kinds := [], alts := [], laidByText := true, laidKinds := [.data, .data, .data, .data, .sentinel, .sentinel, .pinned], laidTests := true, laidLooks := .later }
def FnExactReadTurnerCardSaid : Prop := Claim7.holds Tryd.pinned (.plain (OpenSpec.ofChange fnExactReadTurnerSpec)) fnExactReadTurnerCard

/-- THE TIED CARD OF 'laws.FnExactCodeName'. -/
def fnExactCodeNameCard : Claim7 := { stood := { row := fnExactCodeNameRow, standIns := [], harness := (true, "ce75dbeca2ad707b160783fb5411bcfd2d0e25d890ec2dc839d5d348d2540bad"), looks := true }, kinds := [], alts := [], laidByText := true, laidKinds := [.data, .pinned], laidTests := true, laidLooks := .later }
def FnExactCodeNameCardSaid : Prop := Claim7.holds Tryd.pinned (.plain (OpenSpec.ofChange fnExactCodeNameSpec)) fnExactCodeNameCard

/-- THE TIED CARD OF 'laws.FnExactTableText'. -/
def fnExactTableTextCard : Claim7 := { stood := { row := fnExactTableTextRow, standIns := [], harness := (true, "ce75dbeca2ad707b160783fb5411bcfd2d0e25d890ec2dc839d5d348d2540bad"), looks := true }, kinds := [], alts := [], laidByText := true, laidKinds := [.data, .data, .data], laidTests := true, laidLooks := .later }
def FnExactTableTextCardSaid : Prop := Claim7.holds Tryd.pinned (.plain (OpenSpec.ofChange fnExactTableTextSpec)) fnExactTableTextCard

/-- THE TIED CARD OF 'laws.FnExactReaderText'. -/
def fnExactReaderTextCard : Claim7 := { stood := { row := fnExactReaderTextRow, standIns := [], harness := (true, "ce75dbeca2ad707b160783fb5411bcfd2d0e25d890ec2dc839d5d348d2540bad"), looks := true }, kinds := [], alts := [], laidByText := true, laidKinds := [.data, .data, .data], laidTests := true, laidLooks := .later }
def FnExactReaderTextCardSaid : Prop := Claim7.holds Tryd.pinned (.plain (OpenSpec.ofChange fnExactReaderTextSpec)) fnExactReaderTextCard

/-- THE TIED CARD OF 'laws.FnExactTurnerText'. -/
def fnExactTurnerTextCard : Claim7 := { stood := { row := fnExactTurnerTextRow, standIns := [], harness := (true, "ce75dbeca2ad707b160783fb5411bcfd2d0e25d890ec2dc839d5d348d2540bad"), looks := true }, kinds := [], alts := [], laidByText := true, laidKinds := [.data, .data, .data], laidTests := true, laidLooks := .later }
def FnExactTurnerTextCardSaid : Prop := Claim7.holds Tryd.pinned (.plain (OpenSpec.ofChange fnExactTurnerTextSpec)) fnExactTurnerTextCard

/-- THE TIED CARD OF 'laws.FnTurnerText'. -/
def fnTurnerTextCard : Claim7 := { stood := { row := fnTurnerTextRow, standIns := [], harness := (true, "ce75dbeca2ad707b160783fb5411bcfd2d0e25d890ec2dc839d5d348d2540bad"), looks := true }, kinds := [], alts := [], laidByText := true, laidKinds := [.data, .data, .data, .data, .sentinel, .sentinel, .pinned], laidTests := true, laidLooks := .later }
def FnTurnerTextCardSaid : Prop := Claim7.holds Tryd.pinned (.plain (OpenSpec.ofChange fnTurnerTextSpec)) fnTurnerTextCard

/-- THE SECOND FORM's CARD OF 'laws.FnExactReadTable'. -/
def fnExactReadTableUptoCard : Claim7 := { stood := { row := fnExactReadTableUptoRow, standIns := [], harness := (true, "ce75dbeca2ad707b160783fb5411bcfd2d0e25d890ec2dc839d5d348d2540bad"), looks := true }, kinds := [], alts := [], laidByText := true, laidKinds := [.data, .data, .data, .data, .sentinel, .sentinel, .pinned], laidTests := true, laidLooks := .later }
def FnExactReadTableUptoCardSaid : Prop := Claim7.holds Tryd.pinned (.plain (OpenSpec.upto fnExactReadTableSpec)) fnExactReadTableUptoCard

/-- THE SECOND FORM's CARD OF 'laws.FnExactReadReader'. -/
def fnExactReadReaderUptoCard : Claim7 := { stood := { row := fnExactReadReaderUptoRow, standIns := [], harness := (true, "ce75dbeca2ad707b160783fb5411bcfd2d0e25d890ec2dc839d5d348d2540bad"), looks := true }, kinds := [], alts := [], laidByText := true, laidKinds := [.data, .data, .data, .data, .sentinel, .sentinel, .pinned], laidTests := true, laidLooks := .later }
def FnExactReadReaderUptoCardSaid : Prop := Claim7.holds Tryd.pinned (.plain (OpenSpec.upto fnExactReadReaderSpec)) fnExactReadReaderUptoCard

/-- THE SECOND FORM's CARD OF 'laws.FnExactReadTurner'. -/
def fnExactReadTurnerUptoCard : Claim7 := { stood := { row := fnExactReadTurnerUptoRow, standIns := [], harness := (true, "ce75dbeca2ad707b160783fb5411bcfd2d0e25d890ec2dc839d5d348d2540bad"), looks := true }, kinds := [], alts := [], laidByText := true, laidKinds := [.data, .data, .data, .data, .sentinel, .sentinel, .pinned], laidTests := true, laidLooks := .later }
def FnExactReadTurnerUptoCardSaid : Prop := Claim7.holds Tryd.pinned (.plain (OpenSpec.upto fnExactReadTurnerSpec)) fnExactReadTurnerUptoCard

/-- THE SECOND FORM's CARD OF 'laws.FnExactCodeName'. -/
def fnExactCodeNameUptoCard : Claim7 := { stood := { row := fnExactCodeNameUptoRow, standIns := [], harness := (true, "ce75dbeca2ad707b160783fb5411bcfd2d0e25d890ec2dc839d5d348d2540bad"), looks := true }, kinds := [], alts := [], laidByText := true, laidKinds := [.data, .pinned], laidTests := true, laidLooks := .later }
def FnExactCodeNameUptoCardSaid : Prop := Claim7.holds Tryd.pinned (.plain (OpenSpec.upto fnExactCodeNameSpec)) fnExactCodeNameUptoCard

/-- THE SECOND FORM's CARD OF 'laws.FnExactTableText'. -/
def fnExactTableTextUptoCard : Claim7 := { stood := { row := fnExactTableTextUptoRow, standIns := [], harness := (true, "ce75dbeca2ad707b160783fb5411bcfd2d0e25d890ec2dc839d5d348d2540bad"), looks := true }, kinds := [], alts := [], laidByText := true, laidKinds := [.data, .data, .data], laidTests := true, laidLooks := .later }
def FnExactTableTextUptoCardSaid : Prop := Claim7.holds Tryd.pinned (.plain (OpenSpec.upto fnExactTableTextSpec)) fnExactTableTextUptoCard

/-- THE SECOND FORM's CARD OF 'laws.FnExactReaderText'. -/
def fnExactReaderTextUptoCard : Claim7 := { stood := { row := fnExactReaderTextUptoRow, standIns := [], harness := (true, "ce75dbeca2ad707b160783fb5411bcfd2d0e25d890ec2dc839d5d348d2540bad"), looks := true }, kinds := [], alts := [], laidByText := true, laidKinds := [.data, .data, .data], laidTests := true, laidLooks := .later }
def FnExactReaderTextUptoCardSaid : Prop := Claim7.holds Tryd.pinned (.plain (OpenSpec.upto fnExactReaderTextSpec)) fnExactReaderTextUptoCard

/-- THE SECOND FORM's CARD OF 'laws.FnExactTurnerText'. -/
def fnExactTurnerTextUptoCard : Claim7 := { stood := { row := fnExactTurnerTextUptoRow, standIns := [], harness := (true, "ce75dbeca2ad707b160783fb5411bcfd2d0e25d890ec2dc839d5d348d2540bad"), looks := true }, kinds := [], alts := [], laidByText := true, laidKinds := [.data, .data, .data], laidTests := true, laidLooks := .later }
def FnExactTurnerTextUptoCardSaid : Prop := Claim7.holds Tryd.pinned (.plain (OpenSpec.upto fnExactTurnerTextSpec)) fnExactTurnerTextUptoCard

/-- THE SECOND FORM's CARD OF 'laws.FnTurnerText'. -/
def fnTurnerTextUptoCard : Claim7 := { stood := { row := fnTurnerTextUptoRow, standIns := [], harness := (true, "ce75dbeca2ad707b160783fb5411bcfd2d0e25d890ec2dc839d5d348d2540bad"), looks := true }, kinds := [], alts := [], laidByText := true, laidKinds := [.data, .data, .data, .data, .sentinel, .sentinel, .pinned], laidTests := true, laidLooks := .later }
def FnTurnerTextUptoCardSaid : Prop := Claim7.holds Tryd.pinned (.plain (OpenSpec.upto fnTurnerTextSpec)) fnTurnerTextUptoCard
end Rows
end Go.Proofs.YtelmooaenodfaaaDoor
