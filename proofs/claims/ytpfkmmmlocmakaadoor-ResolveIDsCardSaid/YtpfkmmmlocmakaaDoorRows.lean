/-
  NARROWER THAN 'FOR EVERY INPUT', by the rows' own cells (each row's printed sentence says how): ResolveGivesUp: laid · ResolveTells: laid · ResolveChases: laid · ResolveRefuses: laid · ResolveIDs: laid · ResolveOfNothing: laid.
  DERIVED. THE GIVEN ROWS OF THIS SEAT. 6 by the template 'for every input the law returns true; each argument reads behind the call as it read before'; 0 by the template 'total and deterministic' (their statements: YtpfkmmmlocmakaaDoorTotals.lean).
  GIVEN WITH THE SEED: the statements are not yours to turn. If you find one false, say at which input.
  Laid BY PROGRAM, IN A SANDBOX (cutbox-rows.mjs): the forced cells as the released guide's own fill.sh prints them over the translation 1cbfd0b4149ed3b1… (all of the seat's roots in one cut). By AI agents, Wed Nov 11 2026. No macro, syntax, notation, axiom, sorry.
-/
import Derived.Test.YtpfkmmmlocmakaaDoorChecked
import GoSem.PinnedTables
import GoSem.Claim
import GoSem.ClaimJoined
import GoSem.ClaimMapViews
import Derived.JoinedTies
import Derived.KernelRfl
namespace Go.Proofs.YtpfkmmmlocmakaaDoor
/- THE CELL 'sum', in the pinned program and in every row, IS THE sha256 OF THE DUMP (.gsa) THAT YtpfkmmmlocmakaaDoorProg.lean LOADS. Nothing in Lean hashes anything: it is a label: what it is worth is what the hold of that sum in a sandbox is worth. -/
noncomputable def Tryd.pinned : Pinned := { name := "ytpfkmmmlocmakaadoor", sum := "1cbfd0b4149ed3b1a8d4bc206604a2b17d25ee9234cfe8cd57fc985de3fef592", checked := Tryd.checked }
namespace Rows
def none {H : Type} : Left H := { results := [], args := [] }

/- WHAT THE LISTED PACKAGE-LEVEL VARIABLES READ AS WHEN THE CALL BEGINS. Each datum BY PROGRAM (the guide's laid-datum.mjs) off the statement by which the dump's own 'gosem.cut.vars' lays the variable. In a bare row this is a premise. The card (YtpfkmmmlocmakaaDoorCards.lean) ties it to the program's text. -/
def laid_unicode_utf8_acceptRanges {H : Type} : DataW H := .agg [.agg [.lit (.int .u8 128), .lit (.int .u8 191)], .agg [.lit (.int .u8 160), .lit (.int .u8 191)], .agg [.lit (.int .u8 128), .lit (.int .u8 159)], .agg [.lit (.int .u8 144), .lit (.int .u8 191)], .agg [.lit (.int .u8 128), .lit (.int .u8 143)], .agg [.lit (.int .u8 0), .lit (.int .u8 0)], .agg [.lit (.int .u8 0), .lit (.int .u8 0)], .agg [.lit (.int .u8 0), .lit (.int .u8 0)], .agg [.lit (.int .u8 0), .lit (.int .u8 0)], .agg [.lit (.int .u8 0), .lit (.int .u8 0)], .agg [.lit (.int .u8 0), .lit (.int .u8 0)], .agg [.lit (.int .u8 0), .lit (.int .u8 0)], .agg [.lit (.int .u8 0), .lit (.int .u8 0)], .agg [.lit (.int .u8 0), .lit (.int .u8 0)], .agg [.lit (.int .u8 0), .lit (.int .u8 0)], .agg [.lit (.int .u8 0), .lit (.int .u8 0)]]
/-- One of Go's own tables, pinned by name: the form's constant. -/
def laid_unicode_utf8_first : DataW Unit := Go.Pinned.utf8First

/-- 'wharflaw22.ResolveGivesUp': WHATEVER THE INPUT: true; the input reads as it did. -/
def resolveGivesUpSpec : ChangeSpec := { name := "resolveGivesUp", fn := fun _ => fun
  | [d1, d2] => { results := [.lit (.bool true)], args := [d1, d2] }
  | _ => none }
def resolveGivesUpRow : OpenClaim := { program := "ytpfkmmmlocmakaadoor", sum := "1cbfd0b4149ed3b1a8d4bc206604a2b17d25ee9234cfe8cd57fc985de3fef592", func := "wharf/wharflaw22.ResolveGivesUp", spec := "resolveGivesUp", inPlace := ["internal/bytealg.CountString", "internal/bytealg.IndexByteString", "internal/bytealg.IndexString"], unfollowed := true, recurses := true, named := ["unicode/utf8.first", "unicode/utf8.acceptRanges", "internal/bytealg.MaxLen"], apart := false, laid := [("unicode/utf8.acceptRanges", laid_unicode_utf8_acceptRanges), ("unicode/utf8.first", laid_unicode_utf8_first)] }
def ResolveGivesUpSaid : Prop := resolveGivesUpRow.holds Tryd.pinned (OpenSpec.ofChange resolveGivesUpSpec)

/-- ITS FALSE NEIGHBOUR: 'it returns false'. Refute it at one input. -/
def resolveGivesUpWrong : ChangeSpec := { name := "resolveGivesUp", fn := fun _ => fun
  | [d1, d2] => { results := [.lit (.bool false)], args := [d1, d2] }
  | _ => none }
def ResolveGivesUpWrongFalsely : Prop := resolveGivesUpRow.holds Tryd.pinned (OpenSpec.ofChange resolveGivesUpWrong)

/-- 'wharflaw22.ResolveTells': WHATEVER THE INPUT: true; the input reads as it did. -/
def resolveTellsSpec : ChangeSpec := { name := "resolveTells", fn := fun _ => fun
  | [d1, d2, d3, d4] => { results := [.lit (.bool true)], args := [d1, d2, d3, d4] }
  | _ => none }
def resolveTellsRow : OpenClaim := { program := "ytpfkmmmlocmakaadoor", sum := "1cbfd0b4149ed3b1a8d4bc206604a2b17d25ee9234cfe8cd57fc985de3fef592", func := "wharf/wharflaw22.ResolveTells", spec := "resolveTells", inPlace := ["internal/bytealg.CountString", "internal/bytealg.IndexByteString", "internal/bytealg.IndexString", "internal/bytealg.IndexByte", "internal/abi.NoEscape", "internal/bytealg.MakeNoZero"], unfollowed := true, recurses := true, named := ["unicode/utf8.first", "unicode/utf8.acceptRanges", "internal/bytealg.MaxLen"], apart := false, laid := [("unicode/utf8.acceptRanges", laid_unicode_utf8_acceptRanges), ("unicode/utf8.first", laid_unicode_utf8_first)] }
def ResolveTellsSaid : Prop := resolveTellsRow.holds Tryd.pinned (OpenSpec.ofChange resolveTellsSpec)

/-- ITS FALSE NEIGHBOUR: 'it returns false'. Refute it at one input. -/
def resolveTellsWrong : ChangeSpec := { name := "resolveTells", fn := fun _ => fun
  | [d1, d2, d3, d4] => { results := [.lit (.bool false)], args := [d1, d2, d3, d4] }
  | _ => none }
def ResolveTellsWrongFalsely : Prop := resolveTellsRow.holds Tryd.pinned (OpenSpec.ofChange resolveTellsWrong)

/-- 'wharflaw22.ResolveChases': WHATEVER THE INPUT: true; the input reads as it did. -/
def resolveChasesSpec : ChangeSpec := { name := "resolveChases", fn := fun _ => fun
  | [d] => { results := [.lit (.bool true)], args := [d] }
  | _ => none }
def resolveChasesRow : OpenClaim := { program := "ytpfkmmmlocmakaadoor", sum := "1cbfd0b4149ed3b1a8d4bc206604a2b17d25ee9234cfe8cd57fc985de3fef592", func := "wharf/wharflaw22.ResolveChases", spec := "resolveChases", inPlace := ["internal/bytealg.CountString", "internal/bytealg.IndexByteString", "internal/bytealg.IndexString", "internal/bytealg.IndexByte", "internal/abi.NoEscape", "internal/bytealg.MakeNoZero"], unfollowed := true, recurses := true, named := ["unicode/utf8.first", "unicode/utf8.acceptRanges", "internal/bytealg.MaxLen"], apart := false, laid := [("unicode/utf8.acceptRanges", laid_unicode_utf8_acceptRanges), ("unicode/utf8.first", laid_unicode_utf8_first)] }
def ResolveChasesSaid : Prop := resolveChasesRow.holds Tryd.pinned (OpenSpec.ofChange resolveChasesSpec)

/-- ITS FALSE NEIGHBOUR: 'it returns false'. Refute it at one input. -/
def resolveChasesWrong : ChangeSpec := { name := "resolveChases", fn := fun _ => fun
  | [d] => { results := [.lit (.bool false)], args := [d] }
  | _ => none }
def ResolveChasesWrongFalsely : Prop := resolveChasesRow.holds Tryd.pinned (OpenSpec.ofChange resolveChasesWrong)

/-- 'wharflaw22.ResolveRefuses': WHATEVER THE INPUT: true; the input reads as it did. -/
def resolveRefusesSpec : ChangeSpec := { name := "resolveRefuses", fn := fun _ => fun
  | [d] => { results := [.lit (.bool true)], args := [d] }
  | _ => none }
def resolveRefusesRow : OpenClaim := { program := "ytpfkmmmlocmakaadoor", sum := "1cbfd0b4149ed3b1a8d4bc206604a2b17d25ee9234cfe8cd57fc985de3fef592", func := "wharf/wharflaw22.ResolveRefuses", spec := "resolveRefuses", inPlace := ["internal/bytealg.CountString", "internal/bytealg.IndexByteString", "internal/bytealg.IndexString", "internal/bytealg.IndexByte", "internal/abi.NoEscape", "internal/bytealg.MakeNoZero"], unfollowed := true, recurses := true, named := ["unicode/utf8.first", "unicode/utf8.acceptRanges", "internal/bytealg.MaxLen"], apart := false, laid := [("unicode/utf8.acceptRanges", laid_unicode_utf8_acceptRanges), ("unicode/utf8.first", laid_unicode_utf8_first)] }
def ResolveRefusesSaid : Prop := resolveRefusesRow.holds Tryd.pinned (OpenSpec.ofChange resolveRefusesSpec)

/-- ITS FALSE NEIGHBOUR: 'it returns false'. Refute it at one input. -/
def resolveRefusesWrong : ChangeSpec := { name := "resolveRefuses", fn := fun _ => fun
  | [d] => { results := [.lit (.bool false)], args := [d] }
  | _ => none }
def ResolveRefusesWrongFalsely : Prop := resolveRefusesRow.holds Tryd.pinned (OpenSpec.ofChange resolveRefusesWrong)

/-- 'wharflaw22.ResolveIDs': WHATEVER THE INPUT: true; the input reads as it did. -/
def resolveIDsSpec : ChangeSpec := { name := "resolveIDs", fn := fun _ => fun
  | [d1, d2] => { results := [.lit (.bool true)], args := [d1, d2] }
  | _ => none }
def resolveIDsRow : OpenClaim := { program := "ytpfkmmmlocmakaadoor", sum := "1cbfd0b4149ed3b1a8d4bc206604a2b17d25ee9234cfe8cd57fc985de3fef592", func := "wharf/wharflaw22.ResolveIDs", spec := "resolveIDs", inPlace := ["internal/bytealg.CountString", "internal/bytealg.IndexByteString", "internal/bytealg.IndexString", "internal/bytealg.IndexByte", "internal/abi.NoEscape", "internal/bytealg.MakeNoZero"], unfollowed := true, recurses := true, named := ["unicode/utf8.first", "unicode/utf8.acceptRanges", "internal/bytealg.MaxLen"], apart := false, laid := [("unicode/utf8.acceptRanges", laid_unicode_utf8_acceptRanges), ("unicode/utf8.first", laid_unicode_utf8_first)] }
def ResolveIDsSaid : Prop := resolveIDsRow.holds Tryd.pinned (OpenSpec.ofChange resolveIDsSpec)

/-- ITS FALSE NEIGHBOUR: 'it returns false'. Refute it at one input. -/
def resolveIDsWrong : ChangeSpec := { name := "resolveIDs", fn := fun _ => fun
  | [d1, d2] => { results := [.lit (.bool false)], args := [d1, d2] }
  | _ => none }
def ResolveIDsWrongFalsely : Prop := resolveIDsRow.holds Tryd.pinned (OpenSpec.ofChange resolveIDsWrong)

/-- 'wharflaw22.ResolveOfNothing': WHATEVER THE INPUT: true; the input reads as it did. -/
def resolveOfNothingSpec : ChangeSpec := { name := "resolveOfNothing", fn := fun _ => fun
  | [d1, d2, d3] => { results := [.lit (.bool true)], args := [d1, d2, d3] }
  | _ => none }
def resolveOfNothingRow : OpenClaim := { program := "ytpfkmmmlocmakaadoor", sum := "1cbfd0b4149ed3b1a8d4bc206604a2b17d25ee9234cfe8cd57fc985de3fef592", func := "wharf/wharflaw22.ResolveOfNothing", spec := "resolveOfNothing", inPlace := ["internal/bytealg.CountString", "internal/bytealg.IndexByteString", "internal/bytealg.IndexString", "internal/bytealg.IndexByte", "internal/abi.NoEscape", "internal/bytealg.MakeNoZero"], unfollowed := true, recurses := true, named := ["unicode/utf8.first", "unicode/utf8.acceptRanges", "internal/bytealg.MaxLen"], apart := false, laid := [("unicode/utf8.acceptRanges", laid_unicode_utf8_acceptRanges), ("unicode/utf8.first", laid_unicode_utf8_first)] }
def ResolveOfNothingSaid : Prop := resolveOfNothingRow.holds Tryd.pinned (OpenSpec.ofChange resolveOfNothingSpec)

/-- ITS FALSE NEIGHBOUR: 'it returns false'. Refute it at one input. -/
def resolveOfNothingWrong : ChangeSpec := { name := "resolveOfNothing", fn := fun _ => fun
  | [d1, d2, d3] => { results := [.lit (.bool false)], args := [d1, d2, d3] }
  | _ => none }
def ResolveOfNothingWrongFalsely : Prop := resolveOfNothingRow.holds Tryd.pinned (OpenSpec.ofChange resolveOfNothingWrong)

/- THE SECOND FORM. 'bulk': how many values and letters a reading holds, each counted each time it is reached (what is shared counts as often as it is met; a slice's spare places count too). A statement '..UptoSaid' is the law's where the arguments, and the package variables that the reading takes, are together of bulk at most 1048576: NARROWER than '..Said'. Prove '..Said' where nothing that the law and all that it calls make is longer than what came in: it says more and counts as full. Else prove '..UptoSaid'. A law counts once. -/
mutual
def uptoBulk {H : Type} : DataW H → Nat
  | .lit (.string bytes) => bytes.length + 1
  | .lit _ => 1
  | .nil => 1
  | .ptr d => uptoBulk d + 1
  | .slice elems spare => uptoBulkAll elems + uptoBulkAll spare + 1
  | .agg parts => uptoBulkAll parts + 1
  | .iface _ d => uptoBulk d + 1
  | .map entries => uptoBulkEntries entries + 1
  | .held _ => 1
def uptoBulkAll {H : Type} : List (DataW H) → Nat
  | [] => 0
  | d :: r => uptoBulk d + uptoBulkAll r
def uptoBulkEntries {H : Type} : List (Lit × DataW H) → Nat
  | [] => 0
  | x :: r => uptoBulkEntry x + uptoBulkEntries r
def uptoBulkEntry {H : Type} : Lit × DataW H → Nat
  | (.string bytes, d) => bytes.length + uptoBulk d + 1
  | (_, d) => uptoBulk d + 1
 end
def uptoSmall : (H : Type) → List (DataW H) → Bool := fun _ ds => decide (uptoBulkAll ds ≤ 1048576)
def OpenSpec.upto (s : _root_.Go.ChangeSpec) : _root_.Go.OpenSpec := { _root_.Go.OpenSpec.ofChange s with cond := some uptoSmall }

/-- 'wharflaw22.ResolveGivesUp', WHERE WHAT IT READS IS OF BULK AT MOST 1048576: true; the input reads as it did. -/
def resolveGivesUpUptoRow : OpenClaim := { program := "ytpfkmmmlocmakaadoor", sum := "1cbfd0b4149ed3b1a8d4bc206604a2b17d25ee9234cfe8cd57fc985de3fef592", func := "wharf/wharflaw22.ResolveGivesUp", spec := "resolveGivesUp", inPlace := ["internal/bytealg.CountString", "internal/bytealg.IndexByteString", "internal/bytealg.IndexString"], unfollowed := true, recurses := true, named := ["unicode/utf8.first", "unicode/utf8.acceptRanges", "internal/bytealg.MaxLen"], apart := false, laid := [("unicode/utf8.acceptRanges", laid_unicode_utf8_acceptRanges), ("unicode/utf8.first", laid_unicode_utf8_first)], narrowed := true }
def ResolveGivesUpUptoSaid : Prop := resolveGivesUpUptoRow.holds Tryd.pinned (OpenSpec.upto resolveGivesUpSpec)

/-- 'wharflaw22.ResolveTells', WHERE WHAT IT READS IS OF BULK AT MOST 1048576: true; the input reads as it did. -/
def resolveTellsUptoRow : OpenClaim := { program := "ytpfkmmmlocmakaadoor", sum := "1cbfd0b4149ed3b1a8d4bc206604a2b17d25ee9234cfe8cd57fc985de3fef592", func := "wharf/wharflaw22.ResolveTells", spec := "resolveTells", inPlace := ["internal/bytealg.CountString", "internal/bytealg.IndexByteString", "internal/bytealg.IndexString", "internal/bytealg.IndexByte", "internal/abi.NoEscape", "internal/bytealg.MakeNoZero"], unfollowed := true, recurses := true, named := ["unicode/utf8.first", "unicode/utf8.acceptRanges", "internal/bytealg.MaxLen"], apart := false, laid := [("unicode/utf8.acceptRanges", laid_unicode_utf8_acceptRanges), ("unicode/utf8.first", laid_unicode_utf8_first)], narrowed := true }
def ResolveTellsUptoSaid : Prop := resolveTellsUptoRow.holds Tryd.pinned (OpenSpec.upto resolveTellsSpec)

/-- 'wharflaw22.ResolveChases', WHERE WHAT IT READS IS OF BULK AT MOST 1048576: true; the input reads as it did. -/
def resolveChasesUptoRow : OpenClaim := { program := "ytpfkmmmlocmakaadoor", sum := "1cbfd0b4149ed3b1a8d4bc206604a2b17d25ee9234cfe8cd57fc985de3fef592", func := "wharf/wharflaw22.ResolveChases", spec := "resolveChases", inPlace := ["internal/bytealg.CountString", "internal/bytealg.IndexByteString", "internal/bytealg.IndexString", "internal/bytealg.IndexByte", "internal/abi.NoEscape", "internal/bytealg.MakeNoZero"], unfollowed := true, recurses := true, named := ["unicode/utf8.first", "unicode/utf8.acceptRanges", "internal/bytealg.MaxLen"], apart := false, laid := [("unicode/utf8.acceptRanges", laid_unicode_utf8_acceptRanges), ("unicode/utf8.first", laid_unicode_utf8_first)], narrowed := true }
def ResolveChasesUptoSaid : Prop := resolveChasesUptoRow.holds Tryd.pinned (OpenSpec.upto resolveChasesSpec)

/-- 'wharflaw22.ResolveRefuses', WHERE WHAT IT READS IS OF BULK AT MOST 1048576: true; the input reads as it did. -/
def resolveRefusesUptoRow : OpenClaim := { program := "ytpfkmmmlocmakaadoor", sum := "1cbfd0b4149ed3b1a8d4bc206604a2b17d25ee9234cfe8cd57fc985de3fef592", func := "wharf/wharflaw22.ResolveRefuses", spec := "resolveRefuses", inPlace := ["internal/bytealg.CountString", "internal/bytealg.IndexByteString", "internal/bytealg.IndexString", "internal/bytealg.IndexByte", "internal/abi.NoEscape", "internal/bytealg.MakeNoZero"], unfollowed := true, recurses := true, named := ["unicode/utf8.first", "unicode/utf8.acceptRanges", "internal/bytealg.MaxLen"], apart := false, laid := [("unicode/utf8.acceptRanges", laid_unicode_utf8_acceptRanges), ("unicode/utf8.first", laid_unicode_utf8_first)], narrowed := true }
def ResolveRefusesUptoSaid : Prop := resolveRefusesUptoRow.holds Tryd.pinned (OpenSpec.upto resolveRefusesSpec)

/-- 'wharflaw22.ResolveIDs', WHERE WHAT IT READS IS OF BULK AT MOST 1048576: true; the input reads as it did. -/
def resolveIDsUptoRow : OpenClaim := { program := "ytpfkmmmlocmakaadoor", sum := "1cbfd0b4149ed3b1a8d4bc206604a2b17d25ee9234cfe8cd57fc985de3fef592", func := "wharf/wharflaw22.ResolveIDs", spec := "resolveIDs", inPlace := ["internal/bytealg.CountString", "internal/bytealg.IndexByteString", "internal/bytealg.IndexString", "internal/bytealg.IndexByte", "internal/abi.NoEscape", "internal/bytealg.MakeNoZero"], unfollowed := true, recurses := true, named := ["unicode/utf8.first", "unicode/utf8.acceptRanges", "internal/bytealg.MaxLen"], apart := false, laid := [("unicode/utf8.acceptRanges", laid_unicode_utf8_acceptRanges), ("unicode/utf8.first", laid_unicode_utf8_first)], narrowed := true }
def ResolveIDsUptoSaid : Prop := resolveIDsUptoRow.holds Tryd.pinned (OpenSpec.upto resolveIDsSpec)

/-- 'wharflaw22.ResolveOfNothing', WHERE WHAT IT READS IS OF BULK AT MOST 1048576: true; the input reads as it did. -/
def resolveOfNothingUptoRow : OpenClaim := { program := "ytpfkmmmlocmakaadoor", sum := "1cbfd0b4149ed3b1a8d4bc206604a2b17d25ee9234cfe8cd57fc985de3fef592", func := "wharf/wharflaw22.ResolveOfNothing", spec := "resolveOfNothing", inPlace := ["internal/bytealg.CountString", "internal/bytealg.IndexByteString", "internal/bytealg.IndexString", "internal/bytealg.IndexByte", "internal/abi.NoEscape", "internal/bytealg.MakeNoZero"], unfollowed := true, recurses := true, named := ["unicode/utf8.first", "unicode/utf8.acceptRanges", "internal/bytealg.MaxLen"], apart := false, laid := [("unicode/utf8.acceptRanges", laid_unicode_utf8_acceptRanges), ("unicode/utf8.first", laid_unicode_utf8_first)], narrowed := true }
def ResolveOfNothingUptoSaid : Prop := resolveOfNothingUptoRow.holds Tryd.pinned (OpenSpec.upto resolveOfNothingSpec)

end Rows
end Go.Proofs.YtpfkmmmlocmakaaDoor
