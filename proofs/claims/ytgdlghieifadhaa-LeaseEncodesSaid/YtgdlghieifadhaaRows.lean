/-
  No cell of these rows narrows 'for every input' (looked for: loops, veiled, ifaces, maps, wideKeys, modest, calm, conditions, laid).
  DERIVED. THE GIVEN ROWS OF THIS SEAT. 7 by the template 'for every input the law returns true; each argument reads behind the call as it read before'; 0 by the template 'total and deterministic' (their statements: YtgdlghieifadhaaTotals.lean).
  GIVEN WITH THE SEED: the statements are not yours to turn. If you find one false, say at which input.
  Laid BY PROGRAM, IN A SANDBOX (cutbox-rows.mjs): the forced cells as the released guide's own fill.sh prints them over the translation 0cd04e51e963109d… (all of the seat's roots in one cut). By AI agents, Wed Nov 11 2026. No macro, syntax, notation, axiom, sorry.
-/
import Derived.Test.YtgdlghieifadhaaChecked
import GoSem.Claim
import GoSem.ClaimJoined
import GoSem.ClaimMapViews
import Derived.JoinedTies
import Derived.KernelRfl
namespace Go.Proofs.Ytgdlghieifadhaa
/- THE CELL 'sum', in the pinned program and in every row, IS THE sha256 OF THE DUMP (.gsa) THAT YtgdlghieifadhaaProg.lean LOADS. Nothing in Lean hashes anything: it is a label: what it is worth is what the hold of that sum in a sandbox is worth. -/
noncomputable def Try.pinned : Pinned := { name := "ytgdlghieifadhaa", sum := "0cd04e51e963109daf2f3c26288b8566d351a4569b119c0ea77d81ae343056c5", checked := Try.checked }
namespace Rows
def none {H : Type} : Left H := { results := [], args := [] }

/-- 'wharflaw23.LeaseIgnores': WHATEVER THE INPUT: true; the input reads as it did. -/
def leaseIgnoresSpec : ChangeSpec := { name := "leaseIgnores", fn := fun _ => fun
  | [d1, d2] => { results := [.lit (.bool true)], args := [d1, d2] }
  | _ => none }
def leaseIgnoresRow : OpenClaim := { program := "ytgdlghieifadhaa", sum := "0cd04e51e963109daf2f3c26288b8566d351a4569b119c0ea77d81ae343056c5", func := "wharf/wharflaw23.LeaseIgnores", spec := "leaseIgnores", apart := false }
def LeaseIgnoresSaid : Prop := leaseIgnoresRow.holds Try.pinned (OpenSpec.ofChange leaseIgnoresSpec)

/-- ITS FALSE NEIGHBOUR: 'it returns false'. Refute it at one input. -/
def leaseIgnoresWrong : ChangeSpec := { name := "leaseIgnores", fn := fun _ => fun
  | [d1, d2] => { results := [.lit (.bool false)], args := [d1, d2] }
  | _ => none }
def LeaseIgnoresWrongFalsely : Prop := leaseIgnoresRow.holds Try.pinned (OpenSpec.ofChange leaseIgnoresWrong)

/-- 'wharflaw23.LeaseOver': WHATEVER THE INPUT: true; the input reads as it did. -/
def leaseOverSpec : ChangeSpec := { name := "leaseOver", fn := fun _ => fun
  | [d1, d2, d3] => { results := [.lit (.bool true)], args := [d1, d2, d3] }
  | _ => none }
def leaseOverRow : OpenClaim := { program := "ytgdlghieifadhaa", sum := "0cd04e51e963109daf2f3c26288b8566d351a4569b119c0ea77d81ae343056c5", func := "wharf/wharflaw23.LeaseOver", spec := "leaseOver", unfollowed := true, recurses := true, apart := false }
def LeaseOverSaid : Prop := leaseOverRow.holds Try.pinned (OpenSpec.ofChange leaseOverSpec)

/-- ITS FALSE NEIGHBOUR: 'it returns false'. Refute it at one input. -/
def leaseOverWrong : ChangeSpec := { name := "leaseOver", fn := fun _ => fun
  | [d1, d2, d3] => { results := [.lit (.bool false)], args := [d1, d2, d3] }
  | _ => none }
def LeaseOverWrongFalsely : Prop := leaseOverRow.holds Try.pinned (OpenSpec.ofChange leaseOverWrong)

/-- 'wharflaw23.LeaseRenews': WHATEVER THE INPUT: true; the input reads as it did. -/
def leaseRenewsSpec : ChangeSpec := { name := "leaseRenews", fn := fun _ => fun
  | [d1, d2, d3] => { results := [.lit (.bool true)], args := [d1, d2, d3] }
  | _ => none }
def leaseRenewsRow : OpenClaim := { program := "ytgdlghieifadhaa", sum := "0cd04e51e963109daf2f3c26288b8566d351a4569b119c0ea77d81ae343056c5", func := "wharf/wharflaw23.LeaseRenews", spec := "leaseRenews", unfollowed := true, recurses := true, apart := false }
def LeaseRenewsSaid : Prop := leaseRenewsRow.holds Try.pinned (OpenSpec.ofChange leaseRenewsSpec)

/-- ITS FALSE NEIGHBOUR: 'it returns false'. Refute it at one input. -/
def leaseRenewsWrong : ChangeSpec := { name := "leaseRenews", fn := fun _ => fun
  | [d1, d2, d3] => { results := [.lit (.bool false)], args := [d1, d2, d3] }
  | _ => none }
def LeaseRenewsWrongFalsely : Prop := leaseRenewsRow.holds Try.pinned (OpenSpec.ofChange leaseRenewsWrong)

/-- 'wharflaw23.LeaseFreed': WHATEVER THE INPUT: true; the input reads as it did. -/
def leaseFreedSpec : ChangeSpec := { name := "leaseFreed", fn := fun _ => fun
  | [d] => { results := [.lit (.bool true)], args := [d] }
  | _ => none }
def leaseFreedRow : OpenClaim := { program := "ytgdlghieifadhaa", sum := "0cd04e51e963109daf2f3c26288b8566d351a4569b119c0ea77d81ae343056c5", func := "wharf/wharflaw23.LeaseFreed", spec := "leaseFreed", apart := false }
def LeaseFreedSaid : Prop := leaseFreedRow.holds Try.pinned (OpenSpec.ofChange leaseFreedSpec)

/-- ITS FALSE NEIGHBOUR: 'it returns false'. Refute it at one input. -/
def leaseFreedWrong : ChangeSpec := { name := "leaseFreed", fn := fun _ => fun
  | [d] => { results := [.lit (.bool false)], args := [d] }
  | _ => none }
def LeaseFreedWrongFalsely : Prop := leaseFreedRow.holds Try.pinned (OpenSpec.ofChange leaseFreedWrong)

/-- 'wharflaw23.LeasePlays': WHATEVER THE INPUT: true; the input reads as it did. -/
def leasePlaysSpec : ChangeSpec := { name := "leasePlays", fn := fun _ => fun
  | [d1, d2] => { results := [.lit (.bool true)], args := [d1, d2] }
  | _ => none }
def leasePlaysRow : OpenClaim := { program := "ytgdlghieifadhaa", sum := "0cd04e51e963109daf2f3c26288b8566d351a4569b119c0ea77d81ae343056c5", func := "wharf/wharflaw23.LeasePlays", spec := "leasePlays", unfollowed := true, recurses := true, apart := false }
def LeasePlaysSaid : Prop := leasePlaysRow.holds Try.pinned (OpenSpec.ofChange leasePlaysSpec)

/-- ITS FALSE NEIGHBOUR: 'it returns false'. Refute it at one input. -/
def leasePlaysWrong : ChangeSpec := { name := "leasePlays", fn := fun _ => fun
  | [d1, d2] => { results := [.lit (.bool false)], args := [d1, d2] }
  | _ => none }
def LeasePlaysWrongFalsely : Prop := leasePlaysRow.holds Try.pinned (OpenSpec.ofChange leasePlaysWrong)

/-- 'wharflaw23.LeaseOfNothing': WHATEVER THE INPUT: true; the input reads as it did. -/
def leaseOfNothingSpec : ChangeSpec := { name := "leaseOfNothing", fn := fun _ => fun
  | [d1, d2] => { results := [.lit (.bool true)], args := [d1, d2] }
  | _ => none }
def leaseOfNothingRow : OpenClaim := { program := "ytgdlghieifadhaa", sum := "0cd04e51e963109daf2f3c26288b8566d351a4569b119c0ea77d81ae343056c5", func := "wharf/wharflaw23.LeaseOfNothing", spec := "leaseOfNothing", unfollowed := true, recurses := true, apart := false }
def LeaseOfNothingSaid : Prop := leaseOfNothingRow.holds Try.pinned (OpenSpec.ofChange leaseOfNothingSpec)

/-- ITS FALSE NEIGHBOUR: 'it returns false'. Refute it at one input. -/
def leaseOfNothingWrong : ChangeSpec := { name := "leaseOfNothing", fn := fun _ => fun
  | [d1, d2] => { results := [.lit (.bool false)], args := [d1, d2] }
  | _ => none }
def LeaseOfNothingWrongFalsely : Prop := leaseOfNothingRow.holds Try.pinned (OpenSpec.ofChange leaseOfNothingWrong)

/-- 'wharflaw23.LeaseEncodes': WHATEVER THE INPUT: true; the input reads as it did. -/
def leaseEncodesSpec : ChangeSpec := { name := "leaseEncodes", fn := fun _ => fun
  | [d] => { results := [.lit (.bool true)], args := [d] }
  | _ => none }
def leaseEncodesRow : OpenClaim := { program := "ytgdlghieifadhaa", sum := "0cd04e51e963109daf2f3c26288b8566d351a4569b119c0ea77d81ae343056c5", func := "wharf/wharflaw23.LeaseEncodes", spec := "leaseEncodes", unfollowed := true, recurses := true, apart := false }
def LeaseEncodesSaid : Prop := leaseEncodesRow.holds Try.pinned (OpenSpec.ofChange leaseEncodesSpec)

/-- ITS FALSE NEIGHBOUR: 'it returns false'. Refute it at one input. -/
def leaseEncodesWrong : ChangeSpec := { name := "leaseEncodes", fn := fun _ => fun
  | [d] => { results := [.lit (.bool false)], args := [d] }
  | _ => none }
def LeaseEncodesWrongFalsely : Prop := leaseEncodesRow.holds Try.pinned (OpenSpec.ofChange leaseEncodesWrong)

/- THE SECOND FORM. 'bulk': how many values and letters a reading holds, each counted each time it is reached (what is shared counts as often as it is met; a slice's spare places count too). A statement '..UptoSaid' is the law's where the arguments, and the package variables that the reading takes, are together of bulk at most 1048576: NARROWER than '..Said'. Prove '..Said' where nothing that the law and all that it calls make is longer than what came in: it says more and counts as full. Else prove '..UptoSaid'. A law counts once. -/
mutual
def uptoBulk {H : Type} : DataW H → Nat
  | .lit (.string bytes) => bytes.length + 1
  | .lit _ => 1
  | .nil => 1
  | .ptr d => uptoBulk d + 1
  | .slice elems spare => uptoBulkAll elems + uptoBulkAll spare + 1
  | .agg parts => uptoBulkAll parts + 1
  | .iface _ d => uptoBulk d + 1
  | .map entries => uptoBulkEntries entries + 1
  | .held _ => 1
def uptoBulkAll {H : Type} : List (DataW H) → Nat
  | [] => 0
  | d :: r => uptoBulk d + uptoBulkAll r
def uptoBulkEntries {H : Type} : List (Lit × DataW H) → Nat
  | [] => 0
  | x :: r => uptoBulkEntry x + uptoBulkEntries r
def uptoBulkEntry {H : Type} : Lit × DataW H → Nat
  | (.string bytes, d) => bytes.length + uptoBulk d + 1
  | (_, d) => uptoBulk d + 1
 end
def uptoSmall : (H : Type) → List (DataW H) → Bool := fun _ ds => decide (uptoBulkAll ds ≤ 1048576)
def OpenSpec.upto (s : _root_.Go.ChangeSpec) : _root_.Go.OpenSpec := { _root_.Go.OpenSpec.ofChange s with cond := some uptoSmall }

/-- 'wharflaw23.LeaseIgnores', WHERE WHAT IT READS IS OF BULK AT MOST 1048576: true; the input reads as it did. -/
def leaseIgnoresUptoRow : OpenClaim := { program := "ytgdlghieifadhaa", sum := "0cd04e51e963109daf2f3c26288b8566d351a4569b119c0ea77d81ae343056c5", func := "wharf/wharflaw23.LeaseIgnores", spec := "leaseIgnores", apart := false, narrowed := true }
def LeaseIgnoresUptoSaid : Prop := leaseIgnoresUptoRow.holds Try.pinned (OpenSpec.upto leaseIgnoresSpec)

/-- 'wharflaw23.LeaseOver', WHERE WHAT IT READS IS OF BULK AT MOST 1048576: true; the input reads as it did. -/
def leaseOverUptoRow : OpenClaim := { program := "ytgdlghieifadhaa", sum := "0cd04e51e963109daf2f3c26288b8566d351a4569b119c0ea77d81ae343056c5", func := "wharf/wharflaw23.LeaseOver", spec := "leaseOver", unfollowed := true, recurses := true, apart := false, narrowed := true }
def LeaseOverUptoSaid : Prop := leaseOverUptoRow.holds Try.pinned (OpenSpec.upto leaseOverSpec)

/-- 'wharflaw23.LeaseRenews', WHERE WHAT IT READS IS OF BULK AT MOST 1048576: true; the input reads as it did. -/
def leaseRenewsUptoRow : OpenClaim := { program := "ytgdlghieifadhaa", sum := "0cd04e51e963109daf2f3c26288b8566d351a4569b119c0ea77d81ae343056c5", func := "wharf/wharflaw23.LeaseRenews", spec := "leaseRenews", unfollowed := true, recurses := true, apart := false, narrowed := true }
def LeaseRenewsUptoSaid : Prop := leaseRenewsUptoRow.holds Try.pinned (OpenSpec.upto leaseRenewsSpec)

/-- 'wharflaw23.LeaseFreed', WHERE WHAT IT READS IS OF BULK AT MOST 1048576: true; the input reads as it did. -/
def leaseFreedUptoRow : OpenClaim := { program := "ytgdlghieifadhaa", sum := "0cd04e51e963109daf2f3c26288b8566d351a4569b119c0ea77d81ae343056c5", func := "wharf/wharflaw23.LeaseFreed", spec := "leaseFreed", apart := false, narrowed := true }
def LeaseFreedUptoSaid : Prop := leaseFreedUptoRow.holds Try.pinned (OpenSpec.upto leaseFreedSpec)

/-- 'wharflaw23.LeasePlays', WHERE WHAT IT READS IS OF BULK AT MOST 1048576: true; the input reads as it did. -/
def leasePlaysUptoRow : OpenClaim := { program := "ytgdlghieifadhaa", sum := "0cd04e51e963109daf2f3c26288b8566d351a4569b119c0ea77d81ae343056c5", func := "wharf/wharflaw23.LeasePlays", spec := "leasePlays", unfollowed := true, recurses := true, apart := false, narrowed := true }
def LeasePlaysUptoSaid : Prop := leasePlaysUptoRow.holds Try.pinned (OpenSpec.upto leasePlaysSpec)

/-- 'wharflaw23.LeaseOfNothing', WHERE WHAT IT READS IS OF BULK AT MOST 1048576: true; the input reads as it did. -/
def leaseOfNothingUptoRow : OpenClaim := { program := "ytgdlghieifadhaa", sum := "0cd04e51e963109daf2f3c26288b8566d351a4569b119c0ea77d81ae343056c5", func := "wharf/wharflaw23.LeaseOfNothing", spec := "leaseOfNothing", unfollowed := true, recurses := true, apart := false, narrowed := true }
def LeaseOfNothingUptoSaid : Prop := leaseOfNothingUptoRow.holds Try.pinned (OpenSpec.upto leaseOfNothingSpec)

/-- 'wharflaw23.LeaseEncodes', WHERE WHAT IT READS IS OF BULK AT MOST 1048576: true; the input reads as it did. -/
def leaseEncodesUptoRow : OpenClaim := { program := "ytgdlghieifadhaa", sum := "0cd04e51e963109daf2f3c26288b8566d351a4569b119c0ea77d81ae343056c5", func := "wharf/wharflaw23.LeaseEncodes", spec := "leaseEncodes", unfollowed := true, recurses := true, apart := false, narrowed := true }
def LeaseEncodesUptoSaid : Prop := leaseEncodesUptoRow.holds Try.pinned (OpenSpec.upto leaseEncodesSpec)

end Rows
end Go.Proofs.Ytgdlghieifadhaa
