/-
  DERIVED. GIVEN WITH THE SEED: THE CARDS: each row of YtpfohcmificnmaaDoorRows.lean that lists a variable, with what it lists TIED to the program's text (the seventh form; the later family's looks); each row that meets fmt, with fmt's text TOLD by the authors' own Lean function (tested against real Go, not proved from fmt's source: count such statements apart). THE CARD IS WHAT COUNTS. Prove the row's statement (the work); the ties are given (YtpfohcmificnmaaDoorTie.lean); close each card by the builder's one call (the guide's Derived/Test/ToyasCard.lean, 'card_holds'). Laid BY PROGRAM, IN A SANDBOX (cutbox-door.mjs). By AI agents, Wed Nov 11 2026. No macro, syntax, notation, axiom, sorry.
-/
import Derived.Test.YtpfohcmificnmaaDoorRows
import GoSem.ClaimSeven
namespace Go.Proofs.YtpfohcmificnmaaDoor
namespace Rows

/-- THE TIED CARD OF 'wharflaw2.TallyEnds'. -/
def tallyEndsCard : Claim7 := { stood := { row := tallyEndsRow, standIns := [], harness := (true, "82116bc655075b4815ec2493ccd9854beeccd3b17afade43c7ea1d41f8f2eb1f"), looks := false }, kinds := [], alts := [], goes := true, laidByText := true, laidKinds := [.data, .pinned], laidTests := true, laidLooks := .later }
def TallyEndsCardSaid : Prop := Claim7.holds Tryd.pinned (.plain (OpenSpec.ofChange tallyEndsSpec)) tallyEndsCard

/-- THE TIED CARD OF 'wharflaw2.TallyNames'. -/
def tallyNamesCard : Claim7 := { stood := { row := tallyNamesRow, standIns := [], harness := (true, "82116bc655075b4815ec2493ccd9854beeccd3b17afade43c7ea1d41f8f2eb1f"), looks := false }, kinds := [], alts := [], goes := true, laidByText := true, laidKinds := [.data, .pinned], laidTests := true, laidLooks := .later }
def TallyNamesCardSaid : Prop := Claim7.holds Tryd.pinned (.plain (OpenSpec.ofChange tallyNamesSpec)) tallyNamesCard

/-- THE TIED CARD OF 'wharflaw2.TallyPlays'. -/
def tallyPlaysCard : Claim7 := { stood := { row := tallyPlaysRow, standIns := [], harness := (true, "82116bc655075b4815ec2493ccd9854beeccd3b17afade43c7ea1d41f8f2eb1f"), looks := false }, kinds := [], alts := [], goes := true, laidByText := true, laidKinds := [.data, .pinned], laidTests := true, laidLooks := .later }
def TallyPlaysCardSaid : Prop := Claim7.holds Tryd.pinned (.plain (OpenSpec.ofChange tallyPlaysSpec)) tallyPlaysCard

/-- THE TIED CARD OF 'wharflaw2.TallyKeeps'. -/
def tallyKeepsCard : Claim7 := { stood := { row := tallyKeepsRow, standIns := [], harness := (true, "82116bc655075b4815ec2493ccd9854beeccd3b17afade43c7ea1d41f8f2eb1f"), looks := false }, kinds := [], alts := [], goes := true, laidByText := true, laidKinds := [.data, .pinned], laidTests := true, laidLooks := .later }
def TallyKeepsCardSaid : Prop := Claim7.holds Tryd.pinned (.plain (OpenSpec.ofChange tallyKeepsSpec)) tallyKeepsCard

/-- THE TIED CARD OF 'wharflaw2.TallyOfNothing'. -/
def tallyOfNothingCard : Claim7 := { stood := { row := tallyOfNothingRow, standIns := [], harness := (true, "82116bc655075b4815ec2493ccd9854beeccd3b17afade43c7ea1d41f8f2eb1f"), looks := false }, kinds := [], alts := [], goes := true, laidByText := true, laidKinds := [.data, .pinned], laidTests := true, laidLooks := .later }
def TallyOfNothingCardSaid : Prop := Claim7.holds Tryd.pinned (.plain (OpenSpec.ofChange tallyOfNothingSpec)) tallyOfNothingCard
end Rows
end Go.Proofs.YtpfohcmificnmaaDoor
