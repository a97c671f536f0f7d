/-
  No cell of these rows narrows 'for every input' (looked for: loops, veiled, ifaces, maps, wideKeys, modest, calm, conditions, laid).
  DERIVED. THE GIVEN ROWS OF THIS SEAT. 5 by the template 'for every input the law returns true; each argument reads behind the call as it read before'; 0 by the template 'total and deterministic' (their statements: YtmboadgmhafedaaTotals.lean).
  GIVEN WITH THE SEED: the statements are not yours to turn. If you find one false, say at which input.
  Laid BY PROGRAM, IN A SANDBOX (cutbox-rows.mjs): the forced cells as the released guide's own fill.sh prints them over the translation f4f23f66fcf02e37… (all of the seat's roots in one cut). By AI agents, Wed Nov 11 2026. No macro, syntax, notation, axiom, sorry.
-/
import Derived.Test.YtmboadgmhafedaaChecked
import GoSem.Claim
import GoSem.ClaimJoined
import GoSem.ClaimMapViews
import Derived.JoinedTies
import Derived.KernelRfl
namespace Go.Proofs.Ytmboadgmhafedaa
/- THE CELL 'sum', in the pinned program and in every row, IS THE sha256 OF THE DUMP (.gsa) THAT YtmboadgmhafedaaProg.lean LOADS. Nothing in Lean hashes anything: it is a label: what it is worth is what the hold of that sum in a sandbox is worth. -/
noncomputable def Try.pinned : Pinned := { name := "ytmboadgmhafedaa", sum := "f4f23f66fcf02e3725a834d65171a53d2e8fd730ad2c304265f32567cb90adbb", checked := Try.checked }
namespace Rows
def none {H : Type} : Left H := { results := [], args := [] }

/-- 'wharflaw8.RouteFinds': WHATEVER THE INPUT: true; the input reads as it did. -/
def routeFindsSpec : ChangeSpec := { name := "routeFinds", fn := fun _ => fun
  | [d1, d2] => { results := [.lit (.bool true)], args := [d1, d2] }
  | _ => none }
def routeFindsRow : OpenClaim := { program := "ytmboadgmhafedaa", sum := "f4f23f66fcf02e3725a834d65171a53d2e8fd730ad2c304265f32567cb90adbb", func := "wharf/wharflaw8.RouteFinds", spec := "routeFinds", inPlace := ["slices.overlaps[wharf/api.Route]"], unfollowed := true, recurses := true, apart := false }
def RouteFindsSaid : Prop := routeFindsRow.holds Try.pinned (OpenSpec.ofChange routeFindsSpec)

/-- ITS FALSE NEIGHBOUR: 'it returns false'. Refute it at one input. -/
def routeFindsWrong : ChangeSpec := { name := "routeFinds", fn := fun _ => fun
  | [d1, d2] => { results := [.lit (.bool false)], args := [d1, d2] }
  | _ => none }
def RouteFindsWrongFalsely : Prop := routeFindsRow.holds Try.pinned (OpenSpec.ofChange routeFindsWrong)

/-- 'wharflaw8.RouteOrder': WHATEVER THE INPUT: true; the input reads as it did. -/
def routeOrderSpec : ChangeSpec := { name := "routeOrder", fn := fun _ => fun
  | [d] => { results := [.lit (.bool true)], args := [d] }
  | _ => none }
def routeOrderRow : OpenClaim := { program := "ytmboadgmhafedaa", sum := "f4f23f66fcf02e3725a834d65171a53d2e8fd730ad2c304265f32567cb90adbb", func := "wharf/wharflaw8.RouteOrder", spec := "routeOrder", inPlace := ["slices.overlaps[wharf/api.Route]"], unfollowed := true, recurses := true, apart := false }
def RouteOrderSaid : Prop := routeOrderRow.holds Try.pinned (OpenSpec.ofChange routeOrderSpec)

/-- ITS FALSE NEIGHBOUR: 'it returns false'. Refute it at one input. -/
def routeOrderWrong : ChangeSpec := { name := "routeOrder", fn := fun _ => fun
  | [d] => { results := [.lit (.bool false)], args := [d] }
  | _ => none }
def RouteOrderWrongFalsely : Prop := routeOrderRow.holds Try.pinned (OpenSpec.ofChange routeOrderWrong)

/-- 'wharflaw8.RoutePlays': WHATEVER THE INPUT: true; the input reads as it did. -/
def routePlaysSpec : ChangeSpec := { name := "routePlays", fn := fun _ => fun
  | [d] => { results := [.lit (.bool true)], args := [d] }
  | _ => none }
def routePlaysRow : OpenClaim := { program := "ytmboadgmhafedaa", sum := "f4f23f66fcf02e3725a834d65171a53d2e8fd730ad2c304265f32567cb90adbb", func := "wharf/wharflaw8.RoutePlays", spec := "routePlays", inPlace := ["slices.overlaps[wharf/api.Route]"], unfollowed := true, recurses := true, apart := false }
def RoutePlaysSaid : Prop := routePlaysRow.holds Try.pinned (OpenSpec.ofChange routePlaysSpec)

/-- ITS FALSE NEIGHBOUR: 'it returns false'. Refute it at one input. -/
def routePlaysWrong : ChangeSpec := { name := "routePlays", fn := fun _ => fun
  | [d] => { results := [.lit (.bool false)], args := [d] }
  | _ => none }
def RoutePlaysWrongFalsely : Prop := routePlaysRow.holds Try.pinned (OpenSpec.ofChange routePlaysWrong)

/-- 'wharflaw8.RouteForgets': WHATEVER THE INPUT: true; the input reads as it did. -/
def routeForgetsSpec : ChangeSpec := { name := "routeForgets", fn := fun _ => fun
  | [d1, d2] => { results := [.lit (.bool true)], args := [d1, d2] }
  | _ => none }
def routeForgetsRow : OpenClaim := { program := "ytmboadgmhafedaa", sum := "f4f23f66fcf02e3725a834d65171a53d2e8fd730ad2c304265f32567cb90adbb", func := "wharf/wharflaw8.RouteForgets", spec := "routeForgets", inPlace := ["slices.overlaps[wharf/api.Route]"], unfollowed := true, recurses := true, apart := false }
def RouteForgetsSaid : Prop := routeForgetsRow.holds Try.pinned (OpenSpec.ofChange routeForgetsSpec)

/-- ITS FALSE NEIGHBOUR: 'it returns false'. Refute it at one input. -/
def routeForgetsWrong : ChangeSpec := { name := "routeForgets", fn := fun _ => fun
  | [d1, d2] => { results := [.lit (.bool false)], args := [d1, d2] }
  | _ => none }
def RouteForgetsWrongFalsely : Prop := routeForgetsRow.holds Try.pinned (OpenSpec.ofChange routeForgetsWrong)

/-- 'wharflaw8.RouteOfNothing': WHATEVER THE INPUT: true; the input reads as it did. -/
def routeOfNothingSpec : ChangeSpec := { name := "routeOfNothing", fn := fun _ => fun
  | [d1, d2] => { results := [.lit (.bool true)], args := [d1, d2] }
  | _ => none }
def routeOfNothingRow : OpenClaim := { program := "ytmboadgmhafedaa", sum := "f4f23f66fcf02e3725a834d65171a53d2e8fd730ad2c304265f32567cb90adbb", func := "wharf/wharflaw8.RouteOfNothing", spec := "routeOfNothing", inPlace := ["slices.overlaps[wharf/api.Route]"], unfollowed := true, recurses := true, apart := false }
def RouteOfNothingSaid : Prop := routeOfNothingRow.holds Try.pinned (OpenSpec.ofChange routeOfNothingSpec)

/-- ITS FALSE NEIGHBOUR: 'it returns false'. Refute it at one input. -/
def routeOfNothingWrong : ChangeSpec := { name := "routeOfNothing", fn := fun _ => fun
  | [d1, d2] => { results := [.lit (.bool false)], args := [d1, d2] }
  | _ => none }
def RouteOfNothingWrongFalsely : Prop := routeOfNothingRow.holds Try.pinned (OpenSpec.ofChange routeOfNothingWrong)

/- THE SECOND FORM. 'bulk': how many values and letters a reading holds, each counted each time it is reached (what is shared counts as often as it is met; a slice's spare places count too). A statement '..UptoSaid' is the law's where the arguments, and the package variables that the reading takes, are together of bulk at most 1048576: NARROWER than '..Said'. Prove '..Said' where nothing that the law and all that it calls make is longer than what came in: it says more and counts as full. Else prove '..UptoSaid'. A law counts once. -/
mutual
def uptoBulk {H : Type} : DataW H → Nat
  | .lit (.string bytes) => bytes.length + 1
  | .lit _ => 1
  | .nil => 1
  | .ptr d => uptoBulk d + 1
  | .slice elems spare => uptoBulkAll elems + uptoBulkAll spare + 1
  | .agg parts => uptoBulkAll parts + 1
  | .iface _ d => uptoBulk d + 1
  | .map entries => uptoBulkEntries entries + 1
  | .held _ => 1
def uptoBulkAll {H : Type} : List (DataW H) → Nat
  | [] => 0
  | d :: r => uptoBulk d + uptoBulkAll r
def uptoBulkEntries {H : Type} : List (Lit × DataW H) → Nat
  | [] => 0
  | x :: r => uptoBulkEntry x + uptoBulkEntries r
def uptoBulkEntry {H : Type} : Lit × DataW H → Nat
  | (.string bytes, d) => bytes.length + uptoBulk d + 1
  | (_, d) => uptoBulk d + 1
 end
def uptoSmall : (H : Type) → List (DataW H) → Bool := fun _ ds => decide (uptoBulkAll ds ≤ 1048576)
def OpenSpec.upto (s : _root_.Go.ChangeSpec) : _root_.Go.OpenSpec := { _root_.Go.OpenSpec.ofChange s with cond := some uptoSmall }

/-- 'wharflaw8.RouteFinds', WHERE WHAT IT READS IS OF BULK AT MOST 1048576: true; the input reads as it did. -/
def routeFindsUptoRow : OpenClaim := { program := "ytmboadgmhafedaa", sum := "f4f23f66fcf02e3725a834d65171a53d2e8fd730ad2c304265f32567cb90adbb", func := "wharf/wharflaw8.RouteFinds", spec := "routeFinds", inPlace := ["slices.overlaps[wharf/api.Route]"], unfollowed := true, recurses := true, apart := false, narrowed := true }
def RouteFindsUptoSaid : Prop := routeFindsUptoRow.holds Try.pinned (OpenSpec.upto routeFindsSpec)

/-- 'wharflaw8.RouteOrder', WHERE WHAT IT READS IS OF BULK AT MOST 1048576: true; the input reads as it did. -/
def routeOrderUptoRow : OpenClaim := { program := "ytmboadgmhafedaa", sum := "f4f23f66fcf02e3725a834d65171a53d2e8fd730ad2c304265f32567cb90adbb", func := "wharf/wharflaw8.RouteOrder", spec := "routeOrder", inPlace := ["slices.overlaps[wharf/api.Route]"], unfollowed := true, recurses := true, apart := false, narrowed := true }
def RouteOrderUptoSaid : Prop := routeOrderUptoRow.holds Try.pinned (OpenSpec.upto routeOrderSpec)

/-- 'wharflaw8.RoutePlays', WHERE WHAT IT READS IS OF BULK AT MOST 1048576: true; the input reads as it did. -/
def routePlaysUptoRow : OpenClaim := { program := "ytmboadgmhafedaa", sum := "f4f23f66fcf02e3725a834d65171a53d2e8fd730ad2c304265f32567cb90adbb", func := "wharf/wharflaw8.RoutePlays", spec := "routePlays", inPlace := ["slices.overlaps[wharf/api.Route]"], unfollowed := true, recurses := true, apart := false, narrowed := true }
def RoutePlaysUptoSaid : Prop := routePlaysUptoRow.holds Try.pinned (OpenSpec.upto routePlaysSpec)

/-- 'wharflaw8.RouteForgets', WHERE WHAT IT READS IS OF BULK AT MOST 1048576: true; the input reads as it did. -/
def routeForgetsUptoRow : OpenClaim := { program := "ytmboadgmhafedaa", sum := "f4f23f66fcf02e3725a834d65171a53d2e8fd730ad2c304265f32567cb90adbb", func := "wharf/wharflaw8.RouteForgets", spec := "routeForgets", inPlace := ["slices.overlaps[wharf/api.Route]"], unfollowed := true, recurses := true, apart := false, narrowed := true }
def RouteForgetsUptoSaid : Prop := routeForgetsUptoRow.holds Try.pinned (OpenSpec.upto routeForgetsSpec)

/-- 'wharflaw8.RouteOfNothing', WHERE WHAT IT READS IS OF BULK AT MOST 1048576: true; the input reads as it did. -/
def routeOfNothingUptoRow : OpenClaim := { program := "ytmboadgmhafedaa", sum := "f4f23f66fcf02e3725a834d65171a53d2e8fd730ad2c304265f32567cb90adbb", func := "wharf/wharflaw8.RouteOfNothing", spec := "routeOfNothing", inPlace := ["slices.overlaps[wharf/api.Route]"], unfollowed := true, recurses := true, apart := false, narrowed := true }
def RouteOfNothingUptoSaid : Prop := routeOfNothingUptoRow.holds Try.pinned (OpenSpec.upto routeOfNothingSpec)

end Rows
end Go.Proofs.Ytmboadgmhafedaa
