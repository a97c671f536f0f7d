/-
  DERIVED. GIVEN WITH THE SEED: THE CARDS: each row of YthjpdaflgphbbaaDoorRows.lean that lists a variable, with what it lists TIED to the program's text (the seventh form; the later family's looks); each row that meets fmt, with fmt's text TOLD by the authors' own Lean function (tested against real Go, not proved from fmt's source: count such statements apart). THE CARD IS WHAT COUNTS. Prove the row's statement (the work); the ties are given (YthjpdaflgphbbaaDoorTie.lean); close each card by the builder's one call (the guide's Derived/Test/ToyasCard.lean, 'card_holds'). Laid BY PROGRAM, IN A SANDBOX (cutbox-door.mjs). By AI agents, Wed Nov 11 2026. No macro, syntax, notation, axiom, sorry.
-/
import Derived.Test.YthjpdaflgphbbaaDoorRows
import GoSem.ClaimSeven
namespace Go.Proofs.YthjpdaflgphbbaaDoor
namespace Rows

/-- THE TIED CARD OF 'wharflaw6.IPEncodes'. -/
def iPEncodesCard : Claim7 := { stood := { row := iPEncodesRow, standIns := [], harness := (true, "1069df1c01d747c24bec6fcc682d1846a393189551e65c820ffc957dc483a05c"), looks := true }, kinds := [], alts := [], laidByText := true, laidKinds := [.data, .data, .data, .data, .sentinel, .sentinel, .pinned], laidTests := true, laidLooks := .later }
def IPEncodesCardSaid : Prop := Claim7.holds Tryd.pinned (.plain (OpenSpec.ofChange iPEncodesSpec)) iPEncodesCard

/-- THE TIED CARD OF 'wharflaw6.IPTexts'. -/
def iPTextsCard : Claim7 := { stood := { row := iPTextsRow, standIns := [], harness := (true, "1069df1c01d747c24bec6fcc682d1846a393189551e65c820ffc957dc483a05c"), looks := true }, kinds := [], alts := [], laidByText := true, laidKinds := [.data, .data, .data, .data, .sentinel, .sentinel, .pinned], laidTests := true, laidLooks := .later }
def IPTextsCardSaid : Prop := Claim7.holds Tryd.pinned (.plain (OpenSpec.ofChange iPTextsSpec)) iPTextsCard

/-- THE TIED CARD OF 'wharflaw6.IPParses'. -/
def iPParsesCard : Claim7 := { stood := { row := iPParsesRow, standIns := [], harness := (true, "1069df1c01d747c24bec6fcc682d1846a393189551e65c820ffc957dc483a05c"), looks := true }, kinds := [], alts := [], laidByText := true, laidKinds := [.data, .data, .data, .data, .sentinel, .sentinel, .pinned], laidTests := true, laidLooks := .later }
def IPParsesCardSaid : Prop := Claim7.holds Tryd.pinned (.plain (OpenSpec.ofChange iPParsesSpec)) iPParsesCard

/-- THE TIED CARD OF 'wharflaw6.IPPlaces'. -/
def iPPlacesCard : Claim7 := { stood := { row := iPPlacesRow, standIns := [], harness := (true, "1069df1c01d747c24bec6fcc682d1846a393189551e65c820ffc957dc483a05c"), looks := true }, kinds := [], alts := [], laidByText := true, laidKinds := [.data, .data, .data, .data, .sentinel, .sentinel, .pinned], laidTests := true, laidLooks := .later }
def IPPlacesCardSaid : Prop := Claim7.holds Tryd.pinned (.plain (OpenSpec.ofChange iPPlacesSpec)) iPPlacesCard

/-- THE TIED CARD OF 'wharflaw6.IPDecodes'. -/
def iPDecodesCard : Claim7 := { stood := { row := iPDecodesRow, standIns := [], harness := (true, "1069df1c01d747c24bec6fcc682d1846a393189551e65c820ffc957dc483a05c"), looks := true }, kinds := [], alts := [], laidByText := true, laidKinds := [.data, .data, .data, .data, .sentinel, .sentinel, .pinned], laidTests := true, laidLooks := .later }
def IPDecodesCardSaid : Prop := Claim7.holds Tryd.pinned (.plain (OpenSpec.ofChange iPDecodesSpec)) iPDecodesCard

/-- THE TIED CARD OF 'wharflaw6.IPBack'. -/
def iPBackCard : Claim7 := { stood := { row := iPBackRow, standIns := [], harness := (true, "1069df1c01d747c24bec6fcc682d1846a393189551e65c820ffc957dc483a05c"), looks := true }, kinds := [], alts := [], laidByText := true, laidKinds := [.data, .data, .data, .data, .sentinel, .sentinel, .pinned], laidTests := true, laidLooks := .later }
def IPBackCardSaid : Prop := Claim7.holds Tryd.pinned (.plain (OpenSpec.ofChange iPBackSpec)) iPBackCard

/-- THE TIED CARD OF 'wharflaw6.IPSums'. -/
def iPSumsCard : Claim7 := { stood := { row := iPSumsRow, standIns := [], harness := (true, "1069df1c01d747c24bec6fcc682d1846a393189551e65c820ffc957dc483a05c"), looks := true }, kinds := [], alts := [], laidByText := true, laidKinds := [.data, .data, .data, .data, .sentinel, .sentinel, .pinned], laidTests := true, laidLooks := .later }
def IPSumsCardSaid : Prop := Claim7.holds Tryd.pinned (.plain (OpenSpec.ofChange iPSumsSpec)) iPSumsCard

/-- THE TIED CARD OF 'wharflaw6.IPCuts'. -/
def iPCutsCard : Claim7 := { stood := { row := iPCutsRow, standIns := [], harness := (true, "1069df1c01d747c24bec6fcc682d1846a393189551e65c820ffc957dc483a05c"), looks := true }, kinds := [], alts := [], laidByText := true, laidKinds := [.data, .data, .data, .data, .sentinel, .sentinel, .pinned], laidTests := true, laidLooks := .later }
def IPCutsCardSaid : Prop := Claim7.holds Tryd.pinned (.plain (OpenSpec.ofChange iPCutsSpec)) iPCutsCard

/-- THE SECOND FORM's CARD OF 'wharflaw6.IPEncodes'. -/
def iPEncodesUptoCard : Claim7 := { stood := { row := iPEncodesUptoRow, standIns := [], harness := (true, "1069df1c01d747c24bec6fcc682d1846a393189551e65c820ffc957dc483a05c"), looks := true }, kinds := [], alts := [], laidByText := true, laidKinds := [.data, .data, .data, .data, .sentinel, .sentinel, .pinned], laidTests := true, laidLooks := .later }
def IPEncodesUptoCardSaid : Prop := Claim7.holds Tryd.pinned (.plain (OpenSpec.upto iPEncodesSpec)) iPEncodesUptoCard

/-- THE SECOND FORM's CARD OF 'wharflaw6.IPTexts'. -/
def iPTextsUptoCard : Claim7 := { stood := { row := iPTextsUptoRow, standIns := [], harness := (true, "1069df1c01d747c24bec6fcc682d1846a393189551e65c820ffc957dc483a05c"), looks := true }, kinds := [], alts := [], laidByText := true, laidKinds := [.data, .data, .data, .data, .sentinel, .sentinel, .pinned], laidTests := true, laidLooks := .later }
def IPTextsUptoCardSaid : Prop := Claim7.holds Tryd.pinned (.plain (OpenSpec.upto iPTextsSpec)) iPTextsUptoCard

/-- THE SECOND FORM's CARD OF 'wharflaw6.IPParses'. -/
def iPParsesUptoCard : Claim7 := { stood := { row := iPParsesUptoRow, standIns := [], harness := (true, "1069df1c01d747c24bec6fcc682d1846a393189551e65c820ffc957dc483a05c"), looks := true }, kinds := [], alts := [], laidByText := true, laidKinds := [.data, .data, .data, .data, .sentinel, .sentinel, .pinned], laidTests := true, laidLooks := .later }
def IPParsesUptoCardSaid : Prop := Claim7.holds Tryd.pinned (.plain (OpenSpec.upto iPParsesSpec)) iPParsesUptoCard

/-- THE SECOND FORM's CARD OF 'wharflaw6.IPPlaces'. -/
def iPPlacesUptoCard : Claim7 := { stood := { row := iPPlacesUptoRow, standIns := [], harness := (true, "1069df1c01d747c24bec6fcc682d1846a393189551e65c820ffc957dc483a05c"), looks := true }, kinds := [], alts := [], laidByText := true, laidKinds := [.data, .data, .data, .data, .sentinel, .sentinel, .pinned], laidTests := true, laidLooks := .later }
def IPPlacesUptoCardSaid : Prop := Claim7.holds Tryd.pinned (.plain (OpenSpec.upto iPPlacesSpec)) iPPlacesUptoCard

/-- THE SECOND FORM's CARD OF 'wharflaw6.IPDecodes'. -/
def iPDecodesUptoCard : Claim7 := { stood := { row := iPDecodesUptoRow, standIns := [], harness := (true, "1069df1c01d747c24bec6fcc682d1846a393189551e65c820ffc957dc483a05c"), looks := true }, kinds := [], alts := [], laidByText := true, laidKinds := [.data, .data, .data, .data, .sentinel, .sentinel, .pinned], laidTests := true, laidLooks := .later }
def IPDecodesUptoCardSaid : Prop := Claim7.holds Tryd.pinned (.plain (OpenSpec.upto iPDecodesSpec)) iPDecodesUptoCard

/-- THE SECOND FORM's CARD OF 'wharflaw6.IPBack'. -/
def iPBackUptoCard : Claim7 := { stood := { row := iPBackUptoRow, standIns := [], harness := (true, "1069df1c01d747c24bec6fcc682d1846a393189551e65c820ffc957dc483a05c"), looks := true }, kinds := [], alts := [], laidByText := true, laidKinds := [.data, .data, .data, .data, .sentinel, .sentinel, .pinned], laidTests := true, laidLooks := .later }
def IPBackUptoCardSaid : Prop := Claim7.holds Tryd.pinned (.plain (OpenSpec.upto iPBackSpec)) iPBackUptoCard

/-- THE SECOND FORM's CARD OF 'wharflaw6.IPSums'. -/
def iPSumsUptoCard : Claim7 := { stood := { row := iPSumsUptoRow, standIns := [], harness := (true, "1069df1c01d747c24bec6fcc682d1846a393189551e65c820ffc957dc483a05c"), looks := true }, kinds := [], alts := [], laidByText := true, laidKinds := [.data, .data, .data, .data, .sentinel, .sentinel, .pinned], laidTests := true, laidLooks := .later }
def IPSumsUptoCardSaid : Prop := Claim7.holds Tryd.pinned (.plain (OpenSpec.upto iPSumsSpec)) iPSumsUptoCard

/-- THE SECOND FORM's CARD OF 'wharflaw6.IPCuts'. -/
def iPCutsUptoCard : Claim7 := { stood := { row := iPCutsUptoRow, standIns := [], harness := (true, "1069df1c01d747c24bec6fcc682d1846a393189551e65c820ffc957dc483a05c"), looks := true }, kinds := [], alts := [], laidByText := true, laidKinds := [.data, .data, .data, .data, .sentinel, .sentinel, .pinned], laidTests := true, laidLooks := .later }
def IPCutsUptoCardSaid : Prop := Claim7.holds Tryd.pinned (.plain (OpenSpec.upto iPCutsSpec)) iPCutsUptoCard
end Rows
end Go.Proofs.YthjpdaflgphbbaaDoor
