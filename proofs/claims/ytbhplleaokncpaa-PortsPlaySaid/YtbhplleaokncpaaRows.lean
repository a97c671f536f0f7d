/-
  No cell of these rows narrows 'for every input' (looked for: loops, veiled, ifaces, maps, wideKeys, modest, calm, conditions, laid).
  DERIVED. THE GIVEN ROWS OF THIS SEAT. 10 by the template 'for every input the law returns true; each argument reads behind the call as it read before'; 0 by the template 'total and deterministic' (their statements: YtbhplleaokncpaaTotals.lean).
  GIVEN WITH THE SEED: the statements are not yours to turn. If you find one false, say at which input.
  Laid BY PROGRAM, IN A SANDBOX (cutbox-rows.mjs): the forced cells as the released guide's own fill.sh prints them over the translation d7d2421ca9d5efd1… (all of the seat's roots in one cut). By AI agents, Wed Nov 11 2026. No macro, syntax, notation, axiom, sorry.
-/
import Derived.Test.YtbhplleaokncpaaChecked
import GoSem.Claim
import GoSem.ClaimJoined
import GoSem.ClaimMapViews
import Derived.JoinedTies
import Derived.KernelRfl
namespace Go.Proofs.Ytbhplleaokncpaa
/- THE CELL 'sum', in the pinned program and in every row, IS THE sha256 OF THE DUMP (.gsa) THAT YtbhplleaokncpaaProg.lean LOADS. Nothing in Lean hashes anything: it is a label: what it is worth is what the hold of that sum in a sandbox is worth. -/
noncomputable def Try.pinned : Pinned := { name := "ytbhplleaokncpaa", sum := "d7d2421ca9d5efd18854ea44480ce48753563172e554d11125c9e192f96e7fc3", checked := Try.checked }
namespace Rows
def none {H : Type} : Left H := { results := [], args := [] }

/-- 'wharflaw11.PortsApart': WHATEVER THE INPUT: true; the input reads as it did. -/
def portsApartSpec : ChangeSpec := { name := "portsApart", fn := fun _ => fun
  | [d1, d2, d3, d4] => { results := [.lit (.bool true)], args := [d1, d2, d3, d4] }
  | _ => none }
def portsApartRow : OpenClaim := { program := "ytbhplleaokncpaa", sum := "d7d2421ca9d5efd18854ea44480ce48753563172e554d11125c9e192f96e7fc3", func := "wharf/wharflaw11.PortsApart", spec := "portsApart", unfollowed := true, recurses := true, apart := false }
def PortsApartSaid : Prop := portsApartRow.holds Try.pinned (OpenSpec.ofChange portsApartSpec)

/-- ITS FALSE NEIGHBOUR: 'it returns false'. Refute it at one input. -/
def portsApartWrong : ChangeSpec := { name := "portsApart", fn := fun _ => fun
  | [d1, d2, d3, d4] => { results := [.lit (.bool false)], args := [d1, d2, d3, d4] }
  | _ => none }
def PortsApartWrongFalsely : Prop := portsApartRow.holds Try.pinned (OpenSpec.ofChange portsApartWrong)

/-- 'wharflaw11.PortsRound': WHATEVER THE INPUT: true; the input reads as it did. -/
def portsRoundSpec : ChangeSpec := { name := "portsRound", fn := fun _ => fun
  | [d1, d2] => { results := [.lit (.bool true)], args := [d1, d2] }
  | _ => none }
def portsRoundRow : OpenClaim := { program := "ytbhplleaokncpaa", sum := "d7d2421ca9d5efd18854ea44480ce48753563172e554d11125c9e192f96e7fc3", func := "wharf/wharflaw11.PortsRound", spec := "portsRound", unfollowed := true, recurses := true, apart := false }
def PortsRoundSaid : Prop := portsRoundRow.holds Try.pinned (OpenSpec.ofChange portsRoundSpec)

/-- ITS FALSE NEIGHBOUR: 'it returns false'. Refute it at one input. -/
def portsRoundWrong : ChangeSpec := { name := "portsRound", fn := fun _ => fun
  | [d1, d2] => { results := [.lit (.bool false)], args := [d1, d2] }
  | _ => none }
def PortsRoundWrongFalsely : Prop := portsRoundRow.holds Try.pinned (OpenSpec.ofChange portsRoundWrong)

/-- 'wharflaw11.PortsPeer': WHATEVER THE INPUT: true; the input reads as it did. -/
def portsPeerSpec : ChangeSpec := { name := "portsPeer", fn := fun _ => fun
  | [d1, d2, d3, d4, d5] => { results := [.lit (.bool true)], args := [d1, d2, d3, d4, d5] }
  | _ => none }
def portsPeerRow : OpenClaim := { program := "ytbhplleaokncpaa", sum := "d7d2421ca9d5efd18854ea44480ce48753563172e554d11125c9e192f96e7fc3", func := "wharf/wharflaw11.PortsPeer", spec := "portsPeer", unfollowed := true, recurses := true, apart := false }
def PortsPeerSaid : Prop := portsPeerRow.holds Try.pinned (OpenSpec.ofChange portsPeerSpec)

/-- ITS FALSE NEIGHBOUR: 'it returns false'. Refute it at one input. -/
def portsPeerWrong : ChangeSpec := { name := "portsPeer", fn := fun _ => fun
  | [d1, d2, d3, d4, d5] => { results := [.lit (.bool false)], args := [d1, d2, d3, d4, d5] }
  | _ => none }
def PortsPeerWrongFalsely : Prop := portsPeerRow.holds Try.pinned (OpenSpec.ofChange portsPeerWrong)

/-- 'wharflaw11.PortsPlay': WHATEVER THE INPUT: true; the input reads as it did. -/
def portsPlaySpec : ChangeSpec := { name := "portsPlay", fn := fun _ => fun
  | [d] => { results := [.lit (.bool true)], args := [d] }
  | _ => none }
def portsPlayRow : OpenClaim := { program := "ytbhplleaokncpaa", sum := "d7d2421ca9d5efd18854ea44480ce48753563172e554d11125c9e192f96e7fc3", func := "wharf/wharflaw11.PortsPlay", spec := "portsPlay", unfollowed := true, recurses := true, apart := false }
def PortsPlaySaid : Prop := portsPlayRow.holds Try.pinned (OpenSpec.ofChange portsPlaySpec)

/-- ITS FALSE NEIGHBOUR: 'it returns false'. Refute it at one input. -/
def portsPlayWrong : ChangeSpec := { name := "portsPlay", fn := fun _ => fun
  | [d] => { results := [.lit (.bool false)], args := [d] }
  | _ => none }
def PortsPlayWrongFalsely : Prop := portsPlayRow.holds Try.pinned (OpenSpec.ofChange portsPlayWrong)

/-- 'wharflaw11.PortsOfNothing': WHATEVER THE INPUT: true; the input reads as it did. -/
def portsOfNothingSpec : ChangeSpec := { name := "portsOfNothing", fn := fun _ => fun
  | [d1, d2, d3] => { results := [.lit (.bool true)], args := [d1, d2, d3] }
  | _ => none }
def portsOfNothingRow : OpenClaim := { program := "ytbhplleaokncpaa", sum := "d7d2421ca9d5efd18854ea44480ce48753563172e554d11125c9e192f96e7fc3", func := "wharf/wharflaw11.PortsOfNothing", spec := "portsOfNothing", unfollowed := true, recurses := true, apart := false }
def PortsOfNothingSaid : Prop := portsOfNothingRow.holds Try.pinned (OpenSpec.ofChange portsOfNothingSpec)

/-- ITS FALSE NEIGHBOUR: 'it returns false'. Refute it at one input. -/
def portsOfNothingWrong : ChangeSpec := { name := "portsOfNothing", fn := fun _ => fun
  | [d1, d2, d3] => { results := [.lit (.bool false)], args := [d1, d2, d3] }
  | _ => none }
def PortsOfNothingWrongFalsely : Prop := portsOfNothingRow.holds Try.pinned (OpenSpec.ofChange portsOfNothingWrong)

/-- 'wharflaw11.UDPEncodes': WHATEVER THE INPUT: true; the input reads as it did. -/
def uDPEncodesSpec : ChangeSpec := { name := "uDPEncodes", fn := fun _ => fun
  | [d] => { results := [.lit (.bool true)], args := [d] }
  | _ => none }
def uDPEncodesRow : OpenClaim := { program := "ytbhplleaokncpaa", sum := "d7d2421ca9d5efd18854ea44480ce48753563172e554d11125c9e192f96e7fc3", func := "wharf/wharflaw11.UDPEncodes", spec := "uDPEncodes", unfollowed := true, recurses := true, apart := false }
def UDPEncodesSaid : Prop := uDPEncodesRow.holds Try.pinned (OpenSpec.ofChange uDPEncodesSpec)

/-- ITS FALSE NEIGHBOUR: 'it returns false'. Refute it at one input. -/
def uDPEncodesWrong : ChangeSpec := { name := "uDPEncodes", fn := fun _ => fun
  | [d] => { results := [.lit (.bool false)], args := [d] }
  | _ => none }
def UDPEncodesWrongFalsely : Prop := uDPEncodesRow.holds Try.pinned (OpenSpec.ofChange uDPEncodesWrong)

/-- 'wharflaw11.UDPDecodes': WHATEVER THE INPUT: true; the input reads as it did. -/
def uDPDecodesSpec : ChangeSpec := { name := "uDPDecodes", fn := fun _ => fun
  | [d1, d2, d3] => { results := [.lit (.bool true)], args := [d1, d2, d3] }
  | _ => none }
def uDPDecodesRow : OpenClaim := { program := "ytbhplleaokncpaa", sum := "d7d2421ca9d5efd18854ea44480ce48753563172e554d11125c9e192f96e7fc3", func := "wharf/wharflaw11.UDPDecodes", spec := "uDPDecodes", unfollowed := true, recurses := true, apart := false }
def UDPDecodesSaid : Prop := uDPDecodesRow.holds Try.pinned (OpenSpec.ofChange uDPDecodesSpec)

/-- ITS FALSE NEIGHBOUR: 'it returns false'. Refute it at one input. -/
def uDPDecodesWrong : ChangeSpec := { name := "uDPDecodes", fn := fun _ => fun
  | [d1, d2, d3] => { results := [.lit (.bool false)], args := [d1, d2, d3] }
  | _ => none }
def UDPDecodesWrongFalsely : Prop := uDPDecodesRow.holds Try.pinned (OpenSpec.ofChange uDPDecodesWrong)

/-- 'wharflaw11.UDPBack': WHATEVER THE INPUT: true; the input reads as it did. -/
def uDPBackSpec : ChangeSpec := { name := "uDPBack", fn := fun _ => fun
  | [d1, d2, d3] => { results := [.lit (.bool true)], args := [d1, d2, d3] }
  | _ => none }
def uDPBackRow : OpenClaim := { program := "ytbhplleaokncpaa", sum := "d7d2421ca9d5efd18854ea44480ce48753563172e554d11125c9e192f96e7fc3", func := "wharf/wharflaw11.UDPBack", spec := "uDPBack", unfollowed := true, recurses := true, apart := false }
def UDPBackSaid : Prop := uDPBackRow.holds Try.pinned (OpenSpec.ofChange uDPBackSpec)

/-- ITS FALSE NEIGHBOUR: 'it returns false'. Refute it at one input. -/
def uDPBackWrong : ChangeSpec := { name := "uDPBack", fn := fun _ => fun
  | [d1, d2, d3] => { results := [.lit (.bool false)], args := [d1, d2, d3] }
  | _ => none }
def UDPBackWrongFalsely : Prop := uDPBackRow.holds Try.pinned (OpenSpec.ofChange uDPBackWrong)

/-- 'wharflaw11.UDPTurned': WHATEVER THE INPUT: true; the input reads as it did. -/
def uDPTurnedSpec : ChangeSpec := { name := "uDPTurned", fn := fun _ => fun
  | [d1, d2, d3] => { results := [.lit (.bool true)], args := [d1, d2, d3] }
  | _ => none }
def uDPTurnedRow : OpenClaim := { program := "ytbhplleaokncpaa", sum := "d7d2421ca9d5efd18854ea44480ce48753563172e554d11125c9e192f96e7fc3", func := "wharf/wharflaw11.UDPTurned", spec := "uDPTurned", unfollowed := true, recurses := true, apart := false }
def UDPTurnedSaid : Prop := uDPTurnedRow.holds Try.pinned (OpenSpec.ofChange uDPTurnedSpec)

/-- ITS FALSE NEIGHBOUR: 'it returns false'. Refute it at one input. -/
def uDPTurnedWrong : ChangeSpec := { name := "uDPTurned", fn := fun _ => fun
  | [d1, d2, d3] => { results := [.lit (.bool false)], args := [d1, d2, d3] }
  | _ => none }
def UDPTurnedWrongFalsely : Prop := uDPTurnedRow.holds Try.pinned (OpenSpec.ofChange uDPTurnedWrong)

/-- 'wharflaw11.UDPWhom': WHATEVER THE INPUT: true; the input reads as it did. -/
def uDPWhomSpec : ChangeSpec := { name := "uDPWhom", fn := fun _ => fun
  | [d1, d2, d3] => { results := [.lit (.bool true)], args := [d1, d2, d3] }
  | _ => none }
def uDPWhomRow : OpenClaim := { program := "ytbhplleaokncpaa", sum := "d7d2421ca9d5efd18854ea44480ce48753563172e554d11125c9e192f96e7fc3", func := "wharf/wharflaw11.UDPWhom", spec := "uDPWhom", unfollowed := true, recurses := true, apart := false }
def UDPWhomSaid : Prop := uDPWhomRow.holds Try.pinned (OpenSpec.ofChange uDPWhomSpec)

/-- ITS FALSE NEIGHBOUR: 'it returns false'. Refute it at one input. -/
def uDPWhomWrong : ChangeSpec := { name := "uDPWhom", fn := fun _ => fun
  | [d1, d2, d3] => { results := [.lit (.bool false)], args := [d1, d2, d3] }
  | _ => none }
def UDPWhomWrongFalsely : Prop := uDPWhomRow.holds Try.pinned (OpenSpec.ofChange uDPWhomWrong)

/- THE SECOND FORM. 'bulk': how many values and letters a reading holds, each counted each time it is reached (what is shared counts as often as it is met; a slice's spare places count too). A statement '..UptoSaid' is the law's where the arguments, and the package variables that the reading takes, are together of bulk at most 1048576: NARROWER than '..Said'. Prove '..Said' where nothing that the law and all that it calls make is longer than what came in: it says more and counts as full. Else prove '..UptoSaid'. A law counts once. -/
mutual
def uptoBulk {H : Type} : DataW H → Nat
  | .lit (.string bytes) => bytes.length + 1
  | .lit _ => 1
  | .nil => 1
  | .ptr d => uptoBulk d + 1
  | .slice elems spare => uptoBulkAll elems + uptoBulkAll spare + 1
  | .agg parts => uptoBulkAll parts + 1
  | .iface _ d => uptoBulk d + 1
  | .map entries => uptoBulkEntries entries + 1
  | .held _ => 1
def uptoBulkAll {H : Type} : List (DataW H) → Nat
  | [] => 0
  | d :: r => uptoBulk d + uptoBulkAll r
def uptoBulkEntries {H : Type} : List (Lit × DataW H) → Nat
  | [] => 0
  | x :: r => uptoBulkEntry x + uptoBulkEntries r
def uptoBulkEntry {H : Type} : Lit × DataW H → Nat
  | (.string bytes, d) => bytes.length + uptoBulk d + 1
  | (_, d) => uptoBulk d + 1
 end
def uptoSmall : (H : Type) → List (DataW H) → Bool := fun _ ds => decide (uptoBulkAll ds ≤ 1048576)
def OpenSpec.upto (s : _root_.Go.ChangeSpec) : _root_.Go.OpenSpec := { _root_.Go.OpenSpec.ofChange s with cond := some uptoSmall }

/-- 'wharflaw11.PortsApart', WHERE WHAT IT READS IS OF BULK AT MOST 1048576: true; the input reads as it did. -/
def portsApartUptoRow : OpenClaim := { program := "ytbhplleaokncpaa", sum := "d7d2421ca9d5efd18854ea44480ce48753563172e554d11125c9e192f96e7fc3", func := "wharf/wharflaw11.PortsApart", spec := "portsApart", unfollowed := true, recurses := true, apart := false, narrowed := true }
def PortsApartUptoSaid : Prop := portsApartUptoRow.holds Try.pinned (OpenSpec.upto portsApartSpec)

/-- 'wharflaw11.PortsRound', WHERE WHAT IT READS IS OF BULK AT MOST 1048576: true; the input reads as it did. -/
def portsRoundUptoRow : OpenClaim := { program := "ytbhplleaokncpaa", sum := "d7d2421ca9d5efd18854ea44480ce48753563172e554d11125c9e192f96e7fc3", func := "wharf/wharflaw11.PortsRound", spec := "portsRound", unfollowed := true, recurses := true, apart := false, narrowed := true }
def PortsRoundUptoSaid : Prop := portsRoundUptoRow.holds Try.pinned (OpenSpec.upto portsRoundSpec)

/-- 'wharflaw11.PortsPeer', WHERE WHAT IT READS IS OF BULK AT MOST 1048576: true; the input reads as it did. -/
def portsPeerUptoRow : OpenClaim := { program := "ytbhplleaokncpaa", sum := "d7d2421ca9d5efd18854ea44480ce48753563172e554d11125c9e192f96e7fc3", func := "wharf/wharflaw11.PortsPeer", spec := "portsPeer", unfollowed := true, recurses := true, apart := false, narrowed := true }
def PortsPeerUptoSaid : Prop := portsPeerUptoRow.holds Try.pinned (OpenSpec.upto portsPeerSpec)

/-- 'wharflaw11.PortsPlay', WHERE WHAT IT READS IS OF BULK AT MOST 1048576: true; the input reads as it did. -/
def portsPlayUptoRow : OpenClaim := { program := "ytbhplleaokncpaa", sum := "d7d2421ca9d5efd18854ea44480ce48753563172e554d11125c9e192f96e7fc3", func := "wharf/wharflaw11.PortsPlay", spec := "portsPlay", unfollowed := true, recurses := true, apart := false, narrowed := true }
def PortsPlayUptoSaid : Prop := portsPlayUptoRow.holds Try.pinned (OpenSpec.upto portsPlaySpec)

/-- 'wharflaw11.PortsOfNothing', WHERE WHAT IT READS IS OF BULK AT MOST 1048576: true; the input reads as it did. -/
def portsOfNothingUptoRow : OpenClaim := { program := "ytbhplleaokncpaa", sum := "d7d2421ca9d5efd18854ea44480ce48753563172e554d11125c9e192f96e7fc3", func := "wharf/wharflaw11.PortsOfNothing", spec := "portsOfNothing", unfollowed := true, recurses := true, apart := false, narrowed := true }
def PortsOfNothingUptoSaid : Prop := portsOfNothingUptoRow.holds Try.pinned (OpenSpec.upto portsOfNothingSpec)

/-- 'wharflaw11.UDPEncodes', WHERE WHAT IT READS IS OF BULK AT MOST 1048576: true; the input reads as it did. -/
def uDPEncodesUptoRow : OpenClaim := { program := "ytbhplleaokncpaa", sum := "d7d2421ca9d5efd18854ea44480ce48753563172e554d11125c9e192f96e7fc3", func := "wharf/wharflaw11.UDPEncodes", spec := "uDPEncodes", unfollowed := true, recurses := true, apart := false, narrowed := true }
def UDPEncodesUptoSaid : Prop := uDPEncodesUptoRow.holds Try.pinned (OpenSpec.upto uDPEncodesSpec)

/-- 'wharflaw11.UDPDecodes', WHERE WHAT IT READS IS OF BULK AT MOST 1048576: true; the input reads as it did. -/
def uDPDecodesUptoRow : OpenClaim := { program := "ytbhplleaokncpaa", sum := "d7d2421ca9d5efd18854ea44480ce48753563172e554d11125c9e192f96e7fc3", func := "wharf/wharflaw11.UDPDecodes", spec := "uDPDecodes", unfollowed := true, recurses := true, apart := false, narrowed := true }
def UDPDecodesUptoSaid : Prop := uDPDecodesUptoRow.holds Try.pinned (OpenSpec.upto uDPDecodesSpec)

/-- 'wharflaw11.UDPBack', WHERE WHAT IT READS IS OF BULK AT MOST 1048576: true; the input reads as it did. -/
def uDPBackUptoRow : OpenClaim := { program := "ytbhplleaokncpaa", sum := "d7d2421ca9d5efd18854ea44480ce48753563172e554d11125c9e192f96e7fc3", func := "wharf/wharflaw11.UDPBack", spec := "uDPBack", unfollowed := true, recurses := true, apart := false, narrowed := true }
def UDPBackUptoSaid : Prop := uDPBackUptoRow.holds Try.pinned (OpenSpec.upto uDPBackSpec)

/-- 'wharflaw11.UDPTurned', WHERE WHAT IT READS IS OF BULK AT MOST 1048576: true; the input reads as it did. -/
def uDPTurnedUptoRow : OpenClaim := { program := "ytbhplleaokncpaa", sum := "d7d2421ca9d5efd18854ea44480ce48753563172e554d11125c9e192f96e7fc3", func := "wharf/wharflaw11.UDPTurned", spec := "uDPTurned", unfollowed := true, recurses := true, apart := false, narrowed := true }
def UDPTurnedUptoSaid : Prop := uDPTurnedUptoRow.holds Try.pinned (OpenSpec.upto uDPTurnedSpec)

/-- 'wharflaw11.UDPWhom', WHERE WHAT IT READS IS OF BULK AT MOST 1048576: true; the input reads as it did. -/
def uDPWhomUptoRow : OpenClaim := { program := "ytbhplleaokncpaa", sum := "d7d2421ca9d5efd18854ea44480ce48753563172e554d11125c9e192f96e7fc3", func := "wharf/wharflaw11.UDPWhom", spec := "uDPWhom", unfollowed := true, recurses := true, apart := false, narrowed := true }
def UDPWhomUptoSaid : Prop := uDPWhomUptoRow.holds Try.pinned (OpenSpec.upto uDPWhomSpec)

end Rows
end Go.Proofs.Ytbhplleaokncpaa
