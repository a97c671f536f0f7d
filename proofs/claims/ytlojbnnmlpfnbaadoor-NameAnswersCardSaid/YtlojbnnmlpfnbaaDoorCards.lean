/-
  DERIVED. GIVEN WITH THE SEED: THE CARDS: each row of YtlojbnnmlpfnbaaDoorRows.lean that lists a variable, with what it lists TIED to the program's text (the seventh form; the later family's looks); each row that meets fmt, with fmt's text TOLD by the authors' own Lean function (tested against real Go, not proved from fmt's source: count such statements apart). THE CARD IS WHAT COUNTS. Prove the row's statement (the work); the ties are given (YtlojbnnmlpfnbaaDoorTie.lean); close each card by the builder's one call (the guide's Derived/Test/ToyasCard.lean, 'card_holds'). Laid BY PROGRAM, IN A SANDBOX (cutbox-door.mjs). By AI agents, Wed Nov 11 2026. No macro, syntax, notation, axiom, sorry.
-/
import Derived.Test.YtlojbnnmlpfnbaaDoorRows
import GoSem.ClaimSeven
namespace Go.Proofs.YtlojbnnmlpfnbaaDoor
namespace Rows

/-- THE TIED CARD OF 'wharflaw21.NamePacks'. -/
def namePacksCard : Claim7 := { stood := { row := namePacksRow, standIns := [], harness := (true, "bc2065b27242386fdd498abaa08d83801c26f4276ccc05fcfa0ebb482233bc99"), looks := false }, kinds := [], alts := [], laidByText := true, laidKinds := [.data, .pinned], laidTests := true, laidLooks := .later }
def NamePacksCardSaid : Prop := Claim7.holds Tryd.pinned (.plain (OpenSpec.ofChange namePacksSpec)) namePacksCard

/-- THE TIED CARD OF 'wharflaw21.NameParts'. -/
def namePartsCard : Claim7 := { stood := { row := namePartsRow, standIns := [], harness := (true, "bc2065b27242386fdd498abaa08d83801c26f4276ccc05fcfa0ebb482233bc99"), looks := false }, kinds := [], alts := [], laidByText := true, laidKinds := [.data, .pinned], laidTests := true, laidLooks := .later }
def NamePartsCardSaid : Prop := Claim7.holds Tryd.pinned (.plain (OpenSpec.ofChange namePartsSpec)) namePartsCard

/-- THE TIED CARD OF 'wharflaw21.NameEncodes'. -/
def nameEncodesCard : Claim7 := { stood := { row := nameEncodesRow, standIns := [], harness := (true, "bc2065b27242386fdd498abaa08d83801c26f4276ccc05fcfa0ebb482233bc99"), looks := false }, kinds := [], alts := [], laidByText := true, laidKinds := [.data, .pinned], laidTests := true, laidLooks := .later }
def NameEncodesCardSaid : Prop := Claim7.holds Tryd.pinned (.plain (OpenSpec.ofChange nameEncodesSpec)) nameEncodesCard

/-- THE TIED CARD OF 'wharflaw21.NameBack'. -/
def nameBackCard : Claim7 := { stood := { row := nameBackRow, standIns := [], harness := (true, "bc2065b27242386fdd498abaa08d83801c26f4276ccc05fcfa0ebb482233bc99"), looks := false }, kinds := [], alts := [], laidByText := true, laidKinds := [.data, .pinned], laidTests := true, laidLooks := .later }
def NameBackCardSaid : Prop := Claim7.holds Tryd.pinned (.plain (OpenSpec.ofChange nameBackSpec)) nameBackCard

/-- THE TIED CARD OF 'wharflaw21.NameAnswers'. -/
def nameAnswersCard : Claim7 := { stood := { row := nameAnswersRow, standIns := [], harness := (true, "bc2065b27242386fdd498abaa08d83801c26f4276ccc05fcfa0ebb482233bc99"), looks := false }, kinds := [], alts := [], laidByText := true, laidKinds := [.data, .pinned], laidTests := true, laidLooks := .later }
def NameAnswersCardSaid : Prop := Claim7.holds Tryd.pinned (.plain (OpenSpec.ofChange nameAnswersSpec)) nameAnswersCard

/-- THE SECOND FORM's CARD OF 'wharflaw21.NamePacks'. -/
def namePacksUptoCard : Claim7 := { stood := { row := namePacksUptoRow, standIns := [], harness := (true, "bc2065b27242386fdd498abaa08d83801c26f4276ccc05fcfa0ebb482233bc99"), looks := false }, kinds := [], alts := [], laidByText := true, laidKinds := [.data, .pinned], laidTests := true, laidLooks := .later }
def NamePacksUptoCardSaid : Prop := Claim7.holds Tryd.pinned (.plain (OpenSpec.upto namePacksSpec)) namePacksUptoCard

/-- THE SECOND FORM's CARD OF 'wharflaw21.NameParts'. -/
def namePartsUptoCard : Claim7 := { stood := { row := namePartsUptoRow, standIns := [], harness := (true, "bc2065b27242386fdd498abaa08d83801c26f4276ccc05fcfa0ebb482233bc99"), looks := false }, kinds := [], alts := [], laidByText := true, laidKinds := [.data, .pinned], laidTests := true, laidLooks := .later }
def NamePartsUptoCardSaid : Prop := Claim7.holds Tryd.pinned (.plain (OpenSpec.upto namePartsSpec)) namePartsUptoCard

/-- THE SECOND FORM's CARD OF 'wharflaw21.NameEncodes'. -/
def nameEncodesUptoCard : Claim7 := { stood := { row := nameEncodesUptoRow, standIns := [], harness := (true, "bc2065b27242386fdd498abaa08d83801c26f4276ccc05fcfa0ebb482233bc99"), looks := false }, kinds := [], alts := [], laidByText := true, laidKinds := [.data, .pinned], laidTests := true, laidLooks := .later }
def NameEncodesUptoCardSaid : Prop := Claim7.holds Tryd.pinned (.plain (OpenSpec.upto nameEncodesSpec)) nameEncodesUptoCard

/-- THE SECOND FORM's CARD OF 'wharflaw21.NameBack'. -/
def nameBackUptoCard : Claim7 := { stood := { row := nameBackUptoRow, standIns := [], harness := (true, "bc2065b27242386fdd498abaa08d83801c26f4276ccc05fcfa0ebb482233bc99"), looks := false }, kinds := [], alts := [], laidByText := true, laidKinds := [.data, .pinned], laidTests := true, laidLooks := .later }
def NameBackUptoCardSaid : Prop := Claim7.holds Tryd.pinned (.plain (OpenSpec.upto nameBackSpec)) nameBackUptoCard

/-- THE SECOND FORM's CARD OF 'wharflaw21.NameAnswers'. -/
def nameAnswersUptoCard : Claim7 := { stood := { row := nameAnswersUptoRow, standIns := [], harness := (true, "bc2065b27242386fdd498abaa08d83801c26f4276ccc05fcfa0ebb482233bc99"), looks := false }, kinds := [], alts := [], laidByText := true, laidKinds := [.data, .pinned], laidTests := true, laidLooks := .later }
def NameAnswersUptoCardSaid : Prop := Claim7.holds Tryd.pinned (.plain (OpenSpec.upto nameAnswersSpec)) nameAnswersUptoCard
end Rows
end Go.Proofs.YtlojbnnmlpfnbaaDoor
