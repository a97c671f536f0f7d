/-
  DERIVED. GIVEN WITH THE SEED: THE CARDS: each row of YtpfkmmmlocmakaaDoorRows.lean that lists a variable, with what it lists TIED to the program's text (the seventh form; the later family's looks); each row that meets fmt, with fmt's text TOLD by the authors' own Lean function (tested against real Go, not proved from fmt's source: count such statements apart). THE CARD IS WHAT COUNTS. Prove the row's statement (the work); the ties are given (YtpfkmmmlocmakaaDoorTie.lean); close each card by the builder's one call (the guide's Derived/Test/ToyasCard.lean, 'card_holds'). Laid BY PROGRAM, IN A SANDBOX (cutbox-door.mjs). By AI agents, Wed Nov 11 2026. No macro, syntax, notation, axiom, sorry.
-/
import Derived.Test.YtpfkmmmlocmakaaDoorRows
import GoSem.ClaimSeven
namespace Go.Proofs.YtpfkmmmlocmakaaDoor
namespace Rows

/-- THE TIED CARD OF 'wharflaw22.ResolveGivesUp'. -/
def resolveGivesUpCard : Claim7 := { stood := { row := resolveGivesUpRow, standIns := [], harness := (true, "8ecd3e9536971bc301382af97ce5cfa94ee62867d12c336a122fe5d0484e9763"), looks := false }, kinds := [], alts := [], laidByText := true, laidKinds := [.data, .pinned], laidTests := true, laidLooks := .later }
def ResolveGivesUpCardSaid : Prop := Claim7.holds Tryd.pinned (.plain (OpenSpec.ofChange resolveGivesUpSpec)) resolveGivesUpCard

/-- THE TIED CARD OF 'wharflaw22.ResolveTells'. -/
def resolveTellsCard : Claim7 := { stood := { row := resolveTellsRow, standIns := [], harness := (true, "8ecd3e9536971bc301382af97ce5cfa94ee62867d12c336a122fe5d0484e9763"), looks := false }, kinds := [], alts := [], laidByText := true, laidKinds := [.data, .pinned], laidTests := true, laidLooks := .later }
def ResolveTellsCardSaid : Prop := Claim7.holds Tryd.pinned (.plain (OpenSpec.ofChange resolveTellsSpec)) resolveTellsCard

/-- THE TIED CARD OF 'wharflaw22.ResolveChases'. -/
def resolveChasesCard : Claim7 := { stood := { row := resolveChasesRow, standIns := [], harness := (true, "8ecd3e9536971bc301382af97ce5cfa94ee62867d12c336a122fe5d0484e9763"), looks := false }, kinds := [], alts := [], laidByText := true, laidKinds := [.data, .pinned], laidTests := true, laidLooks := .later }
def ResolveChasesCardSaid : Prop := Claim7.holds Tryd.pinned (.plain (OpenSpec.ofChange resolveChasesSpec)) resolveChasesCard

/-- THE TIED CARD OF 'wharflaw22.ResolveRefuses'. -/
def resolveRefusesCard : Claim7 := { stood := { row := resolveRefusesRow, standIns := [], harness := (true, "8ecd3e9536971bc301382af97ce5cfa94ee62867d12c336a122fe5d0484e9763"), looks := false }, kinds := [], alts := [], laidByText := true, laidKinds := [.data, .pinned], laidTests := true, laidLooks := .later }
def ResolveRefusesCardSaid : Prop := Claim7.holds Tryd.pinned (.plain (OpenSpec.ofChange resolveRefusesSpec)) resolveRefusesCard

/-- THE TIED CARD OF 'wharflaw22.ResolveIDs'. -/
def resolveIDsCard : Claim7 := { stood := { row := resolveIDsRow, standIns := [], harness := (true, "8ecd3e9536971bc301382af97ce5cfa94ee62867d12c336a122fe5d0484e9763"), looks := false }, kinds := [], alts := [], laidByText := true, laidKinds := [.data, .pinned], laidTests := true, laidLooks := .later }
def ResolveIDsCardSaid : Prop := Claim7.holds Tryd.pinned (.plain (OpenSpec.ofChange resolveIDsSpec)) resolveIDsCard

/-- THE TIED CARD OF 'wharflaw22.ResolveOfNothing'. -/
def resolveOfNothingCard : Claim7 := { stood := { row := resolveOfNothingRow, standIns := [], harness := (true, "8ecd3e9536971bc301382af97ce5cfa94ee62867d12c336a122fe5d0484e9763"), looks := false }, kinds := [], alts := [], laidByText := true, laidKinds := [.data, .pinned], laidTests := true, laidLooks := .later }
def ResolveOfNothingCardSaid : Prop := Claim7.holds Tryd.pinned (.plain (OpenSpec.ofChange resolveOfNothingSpec)) resolveOfNothingCard

/-- THE SECOND FORM's CARD OF 'wharflaw22.ResolveGivesUp'. -/
def resolveGivesUpUptoCard : Claim7 := { stood := { row := resolveGivesUpUptoRow, standIns := [], harness := (true, "8ecd3e9536971bc301382af97ce5cfa94ee62867d12c336a122fe5d0484e9763"), looks := false }, kinds := [], alts := [], laidByText := true, laidKinds := [.data, .pinned], laidTests := true, laidLooks := .later }
def ResolveGivesUpUptoCardSaid : Prop := Claim7.holds Tryd.pinned (.plain (OpenSpec.upto resolveGivesUpSpec)) resolveGivesUpUptoCard

/-- THE SECOND FORM's CARD OF 'wharflaw22.ResolveTells'. -/
def resolveTellsUptoCard : Claim7 := { stood := { row := resolveTellsUptoRow, standIns := [], harness := (true, "8ecd3e9536971bc301382af97ce5cfa94ee62867d12c336a122fe5d0484e9763"), looks := false }, kinds := [], alts := [], laidByText := true, laidKinds := [.data, .pinned], laidTests := true, laidLooks := .later }
def ResolveTellsUptoCardSaid : Prop := Claim7.holds Tryd.pinned (.plain (OpenSpec.upto resolveTellsSpec)) resolveTellsUptoCard

/-- THE SECOND FORM's CARD OF 'wharflaw22.ResolveChases'. -/
def resolveChasesUptoCard : Claim7 := { stood := { row := resolveChasesUptoRow, standIns := [], harness := (true, "8ecd3e9536971bc301382af97ce5cfa94ee62867d12c336a122fe5d0484e9763"), looks := false }, kinds := [], alts := [], laidByText := true, laidKinds := [.data, .pinned], laidTests := true, laidLooks := .later }
def ResolveChasesUptoCardSaid : Prop := Claim7.holds Tryd.pinned (.plain (OpenSpec.upto resolveChasesSpec)) resolveChasesUptoCard

/-- THE SECOND FORM's CARD OF 'wharflaw22.ResolveRefuses'. -/
def resolveRefusesUptoCard : Claim7 := { stood := { row := resolveRefusesUptoRow, standIns := [], harness := (true, "8ecd3e9536971bc301382af97ce5cfa94ee62867d12c336a122fe5d0484e9763"), looks := false }, kinds := [], alts := [], laidByText := true, laidKinds := [.data, .pinned], laidTests := true, laidLooks := .later }
def ResolveRefusesUptoCardSaid : Prop := Claim7.holds Tryd.pinned (.plain (OpenSpec.upto resolveRefusesSpec)) resolveRefusesUptoCard

/-- THE SECOND FORM's CARD OF 'wharflaw22.ResolveIDs'. -/
def resolveIDsUptoCard : Claim7 := { stood := { row := resolveIDsUptoRow, standIns := [], harness := (true, "8ecd3e9536971bc301382af97ce5cfa94ee62867d12c336a122fe5d0484e9763"), looks := false }, kinds := [], alts := [], laidByText := true, laidKinds := [.data, .pinned], laidTests := true, laidLooks := .later }
def ResolveIDsUptoCardSaid : Prop := Claim7.holds Tryd.pinned (.plain (OpenSpec.upto resolveIDsSpec)) resolveIDsUptoCard

/-- THE SECOND FORM's CARD OF 'wharflaw22.ResolveOfNothing'. -/
def resolveOfNothingUptoCard : Claim7 := { stood := { row := resolveOfNothingUptoRow, standIns := [], harness := (true, "8ecd3e9536971bc301382af97ce5cfa94ee62867d12c336a122fe5d0484e9763"), looks := false }, kinds := [], alts := [], laidByText := true, laidKinds := [.data, .pinned], laidTests := true, laidLooks := .later }
def ResolveOfNothingUptoCardSaid : Prop := Claim7.holds Tryd.pinned (.plain (OpenSpec.upto resolveOfNothingSpec)) resolveOfNothingUptoCard
end Rows
end Go.Proofs.YtpfkmmmlocmakaaDoor
