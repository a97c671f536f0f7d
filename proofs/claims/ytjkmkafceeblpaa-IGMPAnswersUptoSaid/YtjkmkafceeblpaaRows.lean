/-
  No cell of these rows narrows 'for every input' (looked for: loops, veiled, ifaces, maps, wideKeys, modest, calm, conditions, laid).
  DERIVED. THE GIVEN ROWS OF THIS SEAT. 6 by the template 'for every input the law returns true; each argument reads behind the call as it read before'; 0 by the template 'total and deterministic' (their statements: YtjkmkafceeblpaaTotals.lean).
  GIVEN WITH THE SEED: the statements are not yours to turn. If you find one false, say at which input.
  Laid BY PROGRAM, IN A SANDBOX (cutbox-rows.mjs): the forced cells as the released guide's own fill.sh prints them over the translation dc8fd553ef8bfe70… (all of the seat's roots in one cut). By AI agents, Wed Nov 11 2026. No macro, syntax, notation, axiom, sorry.
-/
import Derived.Test.YtjkmkafceeblpaaChecked
import GoSem.Claim
import GoSem.ClaimJoined
import GoSem.ClaimMapViews
import Derived.JoinedTies
import Derived.KernelRfl
namespace Go.Proofs.Ytjkmkafceeblpaa
/- THE CELL 'sum', in the pinned program and in every row, IS THE sha256 OF THE DUMP (.gsa) THAT YtjkmkafceeblpaaProg.lean LOADS. Nothing in Lean hashes anything: it is a label: what it is worth is what the hold of that sum in a sandbox is worth. -/
noncomputable def Try.pinned : Pinned := { name := "ytjkmkafceeblpaa", sum := "dc8fd553ef8bfe706188b3d1ce13d215060f61cf32598fd3c7105db289e64c97", checked := Try.checked }
namespace Rows
def none {H : Type} : Left H := { results := [], args := [] }

/-- 'wharflaw10.IGMPDecodes': WHATEVER THE INPUT: true; the input reads as it did. -/
def iGMPDecodesSpec : ChangeSpec := { name := "iGMPDecodes", fn := fun _ => fun
  | [d] => { results := [.lit (.bool true)], args := [d] }
  | _ => none }
def iGMPDecodesRow : OpenClaim := { program := "ytjkmkafceeblpaa", sum := "dc8fd553ef8bfe706188b3d1ce13d215060f61cf32598fd3c7105db289e64c97", func := "wharf/wharflaw10.IGMPDecodes", spec := "iGMPDecodes", inPlace := ["slices.overlaps[wharf/igmp.group]"], unfollowed := true, recurses := true, apart := false }
def IGMPDecodesSaid : Prop := iGMPDecodesRow.holds Try.pinned (OpenSpec.ofChange iGMPDecodesSpec)

/-- ITS FALSE NEIGHBOUR: 'it returns false'. Refute it at one input. -/
def iGMPDecodesWrong : ChangeSpec := { name := "iGMPDecodes", fn := fun _ => fun
  | [d] => { results := [.lit (.bool false)], args := [d] }
  | _ => none }
def IGMPDecodesWrongFalsely : Prop := iGMPDecodesRow.holds Try.pinned (OpenSpec.ofChange iGMPDecodesWrong)

/-- 'wharflaw10.IGMPAnswers': WHATEVER THE INPUT: true; the input reads as it did. -/
def iGMPAnswersSpec : ChangeSpec := { name := "iGMPAnswers", fn := fun _ => fun
  | [d1, d2, d3] => { results := [.lit (.bool true)], args := [d1, d2, d3] }
  | _ => none }
def iGMPAnswersRow : OpenClaim := { program := "ytjkmkafceeblpaa", sum := "dc8fd553ef8bfe706188b3d1ce13d215060f61cf32598fd3c7105db289e64c97", func := "wharf/wharflaw10.IGMPAnswers", spec := "iGMPAnswers", inPlace := ["slices.overlaps[wharf/igmp.group]"], unfollowed := true, recurses := true, apart := false }
def IGMPAnswersSaid : Prop := iGMPAnswersRow.holds Try.pinned (OpenSpec.ofChange iGMPAnswersSpec)

/-- ITS FALSE NEIGHBOUR: 'it returns false'. Refute it at one input. -/
def iGMPAnswersWrong : ChangeSpec := { name := "iGMPAnswers", fn := fun _ => fun
  | [d1, d2, d3] => { results := [.lit (.bool false)], args := [d1, d2, d3] }
  | _ => none }
def IGMPAnswersWrongFalsely : Prop := iGMPAnswersRow.holds Try.pinned (OpenSpec.ofChange iGMPAnswersWrong)

/-- 'wharflaw10.IGMPEncodes': WHATEVER THE INPUT: true; the input reads as it did. -/
def iGMPEncodesSpec : ChangeSpec := { name := "iGMPEncodes", fn := fun _ => fun
  | [d] => { results := [.lit (.bool true)], args := [d] }
  | _ => none }
def iGMPEncodesRow : OpenClaim := { program := "ytjkmkafceeblpaa", sum := "dc8fd553ef8bfe706188b3d1ce13d215060f61cf32598fd3c7105db289e64c97", func := "wharf/wharflaw10.IGMPEncodes", spec := "iGMPEncodes", inPlace := ["slices.overlaps[wharf/igmp.group]"], unfollowed := true, recurses := true, apart := false }
def IGMPEncodesSaid : Prop := iGMPEncodesRow.holds Try.pinned (OpenSpec.ofChange iGMPEncodesSpec)

/-- ITS FALSE NEIGHBOUR: 'it returns false'. Refute it at one input. -/
def iGMPEncodesWrong : ChangeSpec := { name := "iGMPEncodes", fn := fun _ => fun
  | [d] => { results := [.lit (.bool false)], args := [d] }
  | _ => none }
def IGMPEncodesWrongFalsely : Prop := iGMPEncodesRow.holds Try.pinned (OpenSpec.ofChange iGMPEncodesWrong)

/-- 'wharflaw10.IGMPHushes': WHATEVER THE INPUT: true; the input reads as it did. -/
def iGMPHushesSpec : ChangeSpec := { name := "iGMPHushes", fn := fun _ => fun
  | [d1, d2, d3] => { results := [.lit (.bool true)], args := [d1, d2, d3] }
  | _ => none }
def iGMPHushesRow : OpenClaim := { program := "ytjkmkafceeblpaa", sum := "dc8fd553ef8bfe706188b3d1ce13d215060f61cf32598fd3c7105db289e64c97", func := "wharf/wharflaw10.IGMPHushes", spec := "iGMPHushes", inPlace := ["slices.overlaps[wharf/igmp.group]"], unfollowed := true, recurses := true, apart := false }
def IGMPHushesSaid : Prop := iGMPHushesRow.holds Try.pinned (OpenSpec.ofChange iGMPHushesSpec)

/-- ITS FALSE NEIGHBOUR: 'it returns false'. Refute it at one input. -/
def iGMPHushesWrong : ChangeSpec := { name := "iGMPHushes", fn := fun _ => fun
  | [d1, d2, d3] => { results := [.lit (.bool false)], args := [d1, d2, d3] }
  | _ => none }
def IGMPHushesWrongFalsely : Prop := iGMPHushesRow.holds Try.pinned (OpenSpec.ofChange iGMPHushesWrong)

/-- 'wharflaw10.IGMPPlays': WHATEVER THE INPUT: true; the input reads as it did. -/
def iGMPPlaysSpec : ChangeSpec := { name := "iGMPPlays", fn := fun _ => fun
  | [d] => { results := [.lit (.bool true)], args := [d] }
  | _ => none }
def iGMPPlaysRow : OpenClaim := { program := "ytjkmkafceeblpaa", sum := "dc8fd553ef8bfe706188b3d1ce13d215060f61cf32598fd3c7105db289e64c97", func := "wharf/wharflaw10.IGMPPlays", spec := "iGMPPlays", inPlace := ["slices.overlaps[wharf/igmp.group]"], unfollowed := true, recurses := true, apart := false }
def IGMPPlaysSaid : Prop := iGMPPlaysRow.holds Try.pinned (OpenSpec.ofChange iGMPPlaysSpec)

/-- ITS FALSE NEIGHBOUR: 'it returns false'. Refute it at one input. -/
def iGMPPlaysWrong : ChangeSpec := { name := "iGMPPlays", fn := fun _ => fun
  | [d] => { results := [.lit (.bool false)], args := [d] }
  | _ => none }
def IGMPPlaysWrongFalsely : Prop := iGMPPlaysRow.holds Try.pinned (OpenSpec.ofChange iGMPPlaysWrong)

/-- 'wharflaw10.IGMPOfNothing': WHATEVER THE INPUT: true; the input reads as it did. -/
def iGMPOfNothingSpec : ChangeSpec := { name := "iGMPOfNothing", fn := fun _ => fun
  | [d1, d2, d3] => { results := [.lit (.bool true)], args := [d1, d2, d3] }
  | _ => none }
def iGMPOfNothingRow : OpenClaim := { program := "ytjkmkafceeblpaa", sum := "dc8fd553ef8bfe706188b3d1ce13d215060f61cf32598fd3c7105db289e64c97", func := "wharf/wharflaw10.IGMPOfNothing", spec := "iGMPOfNothing", inPlace := ["slices.overlaps[wharf/igmp.group]"], unfollowed := true, recurses := true, apart := false }
def IGMPOfNothingSaid : Prop := iGMPOfNothingRow.holds Try.pinned (OpenSpec.ofChange iGMPOfNothingSpec)

/-- ITS FALSE NEIGHBOUR: 'it returns false'. Refute it at one input. -/
def iGMPOfNothingWrong : ChangeSpec := { name := "iGMPOfNothing", fn := fun _ => fun
  | [d1, d2, d3] => { results := [.lit (.bool false)], args := [d1, d2, d3] }
  | _ => none }
def IGMPOfNothingWrongFalsely : Prop := iGMPOfNothingRow.holds Try.pinned (OpenSpec.ofChange iGMPOfNothingWrong)

/- THE SECOND FORM. 'bulk': how many values and letters a reading holds, each counted each time it is reached (what is shared counts as often as it is met; a slice's spare places count too). A statement '..UptoSaid' is the law's where the arguments, and the package variables that the reading takes, are together of bulk at most 1048576: NARROWER than '..Said'. Prove '..Said' where nothing that the law and all that it calls make is longer than what came in: it says more and counts as full. Else prove '..UptoSaid'. A law counts once. -/
mutual
def uptoBulk {H : Type} : DataW H → Nat
  | .lit (.string bytes) => bytes.length + 1
  | .lit _ => 1
  | .nil => 1
  | .ptr d => uptoBulk d + 1
  | .slice elems spare => uptoBulkAll elems + uptoBulkAll spare + 1
  | .agg parts => uptoBulkAll parts + 1
  | .iface _ d => uptoBulk d + 1
  | .map entries => uptoBulkEntries entries + 1
  | .held _ => 1
def uptoBulkAll {H : Type} : List (DataW H) → Nat
  | [] => 0
  | d :: r => uptoBulk d + uptoBulkAll r
def uptoBulkEntries {H : Type} : List (Lit × DataW H) → Nat
  | [] => 0
  | x :: r => uptoBulkEntry x + uptoBulkEntries r
def uptoBulkEntry {H : Type} : Lit × DataW H → Nat
  | (.string bytes, d) => bytes.length + uptoBulk d + 1
  | (_, d) => uptoBulk d + 1
 end
def uptoSmall : (H : Type) → List (DataW H) → Bool := fun _ ds => decide (uptoBulkAll ds ≤ 1048576)
def OpenSpec.upto (s : _root_.Go.ChangeSpec) : _root_.Go.OpenSpec := { _root_.Go.OpenSpec.ofChange s with cond := some uptoSmall }

/-- 'wharflaw10.IGMPDecodes', WHERE WHAT IT READS IS OF BULK AT MOST 1048576: true; the input reads as it did. -/
def iGMPDecodesUptoRow : OpenClaim := { program := "ytjkmkafceeblpaa", sum := "dc8fd553ef8bfe706188b3d1ce13d215060f61cf32598fd3c7105db289e64c97", func := "wharf/wharflaw10.IGMPDecodes", spec := "iGMPDecodes", inPlace := ["slices.overlaps[wharf/igmp.group]"], unfollowed := true, recurses := true, apart := false, narrowed := true }
def IGMPDecodesUptoSaid : Prop := iGMPDecodesUptoRow.holds Try.pinned (OpenSpec.upto iGMPDecodesSpec)

/-- 'wharflaw10.IGMPAnswers', WHERE WHAT IT READS IS OF BULK AT MOST 1048576: true; the input reads as it did. -/
def iGMPAnswersUptoRow : OpenClaim := { program := "ytjkmkafceeblpaa", sum := "dc8fd553ef8bfe706188b3d1ce13d215060f61cf32598fd3c7105db289e64c97", func := "wharf/wharflaw10.IGMPAnswers", spec := "iGMPAnswers", inPlace := ["slices.overlaps[wharf/igmp.group]"], unfollowed := true, recurses := true, apart := false, narrowed := true }
def IGMPAnswersUptoSaid : Prop := iGMPAnswersUptoRow.holds Try.pinned (OpenSpec.upto iGMPAnswersSpec)

/-- 'wharflaw10.IGMPEncodes', WHERE WHAT IT READS IS OF BULK AT MOST 1048576: true; the input reads as it did. -/
def iGMPEncodesUptoRow : OpenClaim := { program := "ytjkmkafceeblpaa", sum := "dc8fd553ef8bfe706188b3d1ce13d215060f61cf32598fd3c7105db289e64c97", func := "wharf/wharflaw10.IGMPEncodes", spec := "iGMPEncodes", inPlace := ["slices.overlaps[wharf/igmp.group]"], unfollowed := true, recurses := true, apart := false, narrowed := true }
def IGMPEncodesUptoSaid : Prop := iGMPEncodesUptoRow.holds Try.pinned (OpenSpec.upto iGMPEncodesSpec)

/-- 'wharflaw10.IGMPHushes', WHERE WHAT IT READS IS OF BULK AT MOST 1048576: true; the input reads as it did. -/
def iGMPHushesUptoRow : OpenClaim := { program := "ytjkmkafceeblpaa", sum := "dc8fd553ef8bfe706188b3d1ce13d215060f61cf32598fd3c7105db289e64c97", func := "wharf/wharflaw10.IGMPHushes", spec := "iGMPHushes", inPlace := ["slices.overlaps[wharf/igmp.group]"], unfollowed := true, recurses := true, apart := false, narrowed := true }
def IGMPHushesUptoSaid : Prop := iGMPHushesUptoRow.holds Try.pinned (OpenSpec.upto iGMPHushesSpec)

/-- 'wharflaw10.IGMPPlays', WHERE WHAT IT READS IS OF BULK AT MOST 1048576: true; the input reads as it did. -/
def iGMPPlaysUptoRow : OpenClaim := { program := "ytjkmkafceeblpaa", sum := "dc8fd553ef8bfe706188b3d1ce13d215060f61cf32598fd3c7105db289e64c97", func := "wharf/wharflaw10.IGMPPlays", spec := "iGMPPlays", inPlace := ["slices.overlaps[wharf/igmp.group]"], unfollowed := true, recurses := true, apart := false, narrowed := true }
def IGMPPlaysUptoSaid : Prop := iGMPPlaysUptoRow.holds Try.pinned (OpenSpec.upto iGMPPlaysSpec)

/-- 'wharflaw10.IGMPOfNothing', WHERE WHAT IT READS IS OF BULK AT MOST 1048576: true; the input reads as it did. -/
def iGMPOfNothingUptoRow : OpenClaim := { program := "ytjkmkafceeblpaa", sum := "dc8fd553ef8bfe706188b3d1ce13d215060f61cf32598fd3c7105db289e64c97", func := "wharf/wharflaw10.IGMPOfNothing", spec := "iGMPOfNothing", inPlace := ["slices.overlaps[wharf/igmp.group]"], unfollowed := true, recurses := true, apart := false, narrowed := true }
def IGMPOfNothingUptoSaid : Prop := iGMPOfNothingUptoRow.holds Try.pinned (OpenSpec.upto iGMPOfNothingSpec)

end Rows
end Go.Proofs.Ytjkmkafceeblpaa
