/-
  NARROWER THAN 'FOR EVERY INPUT', by the rows' own cells (each row's printed sentence says how): FnExactKernelValid: laid · FnExactKernelSees: laid · FnExactKernelReach: laid · FnKernelNew: laid.
  DERIVED. THE GIVEN ROWS OF THIS SEAT. 4 by the template 'for every input the law returns true; each argument reads behind the call as it read before'; 0 by the template 'total and deterministic' (their statements: YtojknkpjnchchaaGreatDoorTotals.lean).
  GIVEN WITH THE SEED: the statements are not yours to turn. If you find one false, say at which input.
  Laid BY PROGRAM, IN A SANDBOX (cutbox-rows.mjs): the forced cells as the released guide's own fill.sh prints them over the translation 5f5effc969cbe32a… (all of the seat's roots in one cut). By AI agents, Wed Nov 11 2026. No macro, syntax, notation, axiom, sorry.
-/
import Derived.Test.YtojknkpjnchchaaGreatDoorChecked
import GoSem.PinnedTables
import GoSem.Claim
import GoSem.ClaimJoined
import GoSem.ClaimMapViews
import Derived.JoinedTies
import Derived.KernelRfl
namespace Go.Proofs.YtojknkpjnchchaaGreatDoor
/- THE CELL 'sum', in the pinned program and in every row, IS THE sha256 OF THE DUMP (.gsa) THAT YtojknkpjnchchaaGreatDoorProg.lean LOADS. Nothing in Lean hashes anything: it is a label: what it is worth is what the hold of that sum in a sandbox is worth. -/
noncomputable def Tryz.pinned : Pinned := { name := "ytojknkpjnchchaagreatdoor", sum := "5f5effc969cbe32a0276f2fa4fe6f73810d110ff9bd6ff963db2356fc7b68fe7", checked := Tryz.checked }
namespace Rows
def none {H : Type} : Left H := { results := [], args := [] }

/- WHAT THE LISTED PACKAGE-LEVEL VARIABLES READ AS WHEN THE CALL BEGINS. Each datum BY PROGRAM (the guide's laid-datum.mjs) off the statement by which the dump's own 'gosem.cut.vars' lays the variable. In a bare row this is a premise. The card (YtojknkpjnchchaaGreatDoorCards.lean) ties it to the program's text. -/
def laid_unicode_utf8_acceptRanges {H : Type} : DataW H := .agg [.agg [.lit (.int .u8 128), .lit (.int .u8 191)], .agg [.lit (.int .u8 160), .lit (.int .u8 191)], .agg [.lit (.int .u8 128), .lit (.int .u8 159)], .agg [.lit (.int .u8 144), .lit (.int .u8 191)], .agg [.lit (.int .u8 128), .lit (.int .u8 143)], .agg [.lit (.int .u8 0), .lit (.int .u8 0)], .agg [.lit (.int .u8 0), .lit (.int .u8 0)], .agg [.lit (.int .u8 0), .lit (.int .u8 0)], .agg [.lit (.int .u8 0), .lit (.int .u8 0)], .agg [.lit (.int .u8 0), .lit (.int .u8 0)], .agg [.lit (.int .u8 0), .lit (.int .u8 0)], .agg [.lit (.int .u8 0), .lit (.int .u8 0)], .agg [.lit (.int .u8 0), .lit (.int .u8 0)], .agg [.lit (.int .u8 0), .lit (.int .u8 0)], .agg [.lit (.int .u8 0), .lit (.int .u8 0)], .agg [.lit (.int .u8 0), .lit (.int .u8 0)]]
/-- One of Go's own tables, pinned by name: the form's constant. -/
def laid_unicode_utf8_first : DataW Unit := Go.Pinned.utf8First

/-- 'laws.FnExactKernelValid': WHATEVER THE INPUT: true; the input reads as it did. -/
def fnExactKernelValidSpec : ChangeSpec := { name := "fnExactKernelValid", fn := fun _ => fun
  | [d] => { results := [.lit (.bool true)], args := [d] }
  | _ => none }
def fnExactKernelValidRow : OpenClaim := { program := "ytojknkpjnchchaagreatdoor", sum := "5f5effc969cbe32a0276f2fa4fe6f73810d110ff9bd6ff963db2356fc7b68fe7", func := "loop.example/exopager/laws.FnExactKernelValid", spec := "fnExactKernelValid", inPlace := ["internal/bytealg.IndexByteString", "internal/bytealg.IndexString"], unfollowed := true, recurses := true, named := ["unicode/utf8.first", "unicode/utf8.acceptRanges", "internal/bytealg.MaxLen"], apart := false, laid := [("unicode/utf8.acceptRanges", laid_unicode_utf8_acceptRanges), ("unicode/utf8.first", laid_unicode_utf8_first)] }
def FnExactKernelValidSaid : Prop := fnExactKernelValidRow.holds Tryz.pinned (OpenSpec.ofChange fnExactKernelValidSpec)

/-- ITS FALSE NEIGHBOUR: 'it returns false'. Refute it at one input. -/
def fnExactKernelValidWrong : ChangeSpec := { name := "fnExactKernelValid", fn := fun _ => fun
  | [d] => { results := [.lit (.bool false)], args := [d] }
  | _ => none }
def FnExactKernelValidWrongFalsely : Prop := fnExactKernelValidRow.holds Tryz.pinned (OpenSpec.ofChange fnExactKernelValidWrong)

/-- 'laws.FnExactKernelSees': WHATEVER THE INPUT: true; the input reads as it did. -/
def fnExactKernelSeesSpec : ChangeSpec := { name := "fnExactKernelSees", fn := fun _ => fun
  | [d1, d2, d3] => { results := [.lit (.bool true)], args := [d1, d2, d3] }
  | _ => none }
def fnExactKernelSeesRow : OpenClaim := { program := "ytojknkpjnchchaagreatdoor", sum := "5f5effc969cbe32a0276f2fa4fe6f73810d110ff9bd6ff963db2356fc7b68fe7", func := "loop.example/exopager/laws.FnExactKernelSees", spec := "fnExactKernelSees", inPlace := ["internal/bytealg.IndexByteString", "internal/bytealg.IndexString"], unfollowed := true, recurses := true, named := ["unicode/utf8.first", "unicode/utf8.acceptRanges", "internal/bytealg.MaxLen"], apart := false, laid := [("unicode/utf8.acceptRanges", laid_unicode_utf8_acceptRanges), ("unicode/utf8.first", laid_unicode_utf8_first)] }
def FnExactKernelSeesSaid : Prop := fnExactKernelSeesRow.holds Tryz.pinned (OpenSpec.ofChange fnExactKernelSeesSpec)

/-- ITS FALSE NEIGHBOUR: 'it returns false'. Refute it at one input. -/
def fnExactKernelSeesWrong : ChangeSpec := { name := "fnExactKernelSees", fn := fun _ => fun
  | [d1, d2, d3] => { results := [.lit (.bool false)], args := [d1, d2, d3] }
  | _ => none }
def FnExactKernelSeesWrongFalsely : Prop := fnExactKernelSeesRow.holds Tryz.pinned (OpenSpec.ofChange fnExactKernelSeesWrong)

/-- 'laws.FnExactKernelReach': WHATEVER THE INPUT: true; the input reads as it did. -/
def fnExactKernelReachSpec : ChangeSpec := { name := "fnExactKernelReach", fn := fun _ => fun
  | [d1, d2] => { results := [.lit (.bool true)], args := [d1, d2] }
  | _ => none }
def fnExactKernelReachRow : OpenClaim := { program := "ytojknkpjnchchaagreatdoor", sum := "5f5effc969cbe32a0276f2fa4fe6f73810d110ff9bd6ff963db2356fc7b68fe7", func := "loop.example/exopager/laws.FnExactKernelReach", spec := "fnExactKernelReach", inPlace := ["internal/bytealg.IndexByteString", "internal/bytealg.IndexString"], unfollowed := true, recurses := true, named := ["unicode/utf8.first", "unicode/utf8.acceptRanges", "internal/bytealg.MaxLen"], apart := false, laid := [("unicode/utf8.acceptRanges", laid_unicode_utf8_acceptRanges), ("unicode/utf8.first", laid_unicode_utf8_first)] }
def FnExactKernelReachSaid : Prop := fnExactKernelReachRow.holds Tryz.pinned (OpenSpec.ofChange fnExactKernelReachSpec)

/-- ITS FALSE NEIGHBOUR: 'it returns false'. Refute it at one input. -/
def fnExactKernelReachWrong : ChangeSpec := { name := "fnExactKernelReach", fn := fun _ => fun
  | [d1, d2] => { results := [.lit (.bool false)], args := [d1, d2] }
  | _ => none }
def FnExactKernelReachWrongFalsely : Prop := fnExactKernelReachRow.holds Tryz.pinned (OpenSpec.ofChange fnExactKernelReachWrong)

/-- 'laws.FnKernelNew': WHATEVER THE INPUT: true; the input reads as it did. -/
def fnKernelNewSpec : ChangeSpec := { name := "fnKernelNew", fn := fun _ => fun
  | [d] => { results := [.lit (.bool true)], args := [d] }
  | _ => none }
def fnKernelNewRow : OpenClaim := { program := "ytojknkpjnchchaagreatdoor", sum := "5f5effc969cbe32a0276f2fa4fe6f73810d110ff9bd6ff963db2356fc7b68fe7", func := "loop.example/exopager/laws.FnKernelNew", spec := "fnKernelNew", inPlace := ["internal/bytealg.IndexByteString", "internal/bytealg.IndexString"], unfollowed := true, recurses := true, named := ["unicode/utf8.first", "unicode/utf8.acceptRanges", "internal/bytealg.MaxLen"], apart := false, laid := [("unicode/utf8.acceptRanges", laid_unicode_utf8_acceptRanges), ("unicode/utf8.first", laid_unicode_utf8_first)] }
def FnKernelNewSaid : Prop := fnKernelNewRow.holds Tryz.pinned (OpenSpec.ofChange fnKernelNewSpec)

/-- ITS FALSE NEIGHBOUR: 'it returns false'. Refute it at one input. -/
def fnKernelNewWrong : ChangeSpec := { name := "fnKernelNew", fn := fun _ => fun
  | [d] => { results := [.lit (.bool false)], args := [d] }
  | _ => none }
def FnKernelNewWrongFalsely : Prop := fnKernelNewRow.holds Tryz.pinned (OpenSpec.ofChange fnKernelNewWrong)

/- THE SECOND FORM. 'bulk': how many values and letters a reading holds, each counted each time it is reached (what is shared counts as often as it is met; a slice's spare places count too). A statement '..UptoSaid' is the law's where the arguments, and the package variables that the reading takes, are together of bulk at most 1048576: NARROWER than '..Said'. Prove '..Said' where nothing that the law and all that it calls make is longer than what came in: it says more and counts as full. Else prove '..UptoSaid'. A law counts once. -/
mutual
def uptoBulk {H : Type} : DataW H → Nat
  | .lit (.string bytes) => bytes.length + 1
  | .lit _ => 1
  | .nil => 1
  | .ptr d => uptoBulk d + 1
  | .slice elems spare => uptoBulkAll elems + uptoBulkAll spare + 1
  | .agg parts => uptoBulkAll parts + 1
  | .iface _ d => uptoBulk d + 1
  | .map entries => uptoBulkEntries entries + 1
  | .held _ => 1
def uptoBulkAll {H : Type} : List (DataW H) → Nat
  | [] => 0
  | d :: r => uptoBulk d + uptoBulkAll r
def uptoBulkEntries {H : Type} : List (Lit × DataW H) → Nat
  | [] => 0
  | x :: r => uptoBulkEntry x + uptoBulkEntries r
def uptoBulkEntry {H : Type} : Lit × DataW H → Nat
  | (.string bytes, d) => bytes.length + uptoBulk d + 1
  | (_, d) => uptoBulk d + 1
 end
def uptoSmall : (H : Type) → List (DataW H) → Bool := fun _ ds => decide (uptoBulkAll ds ≤ 1048576)
def OpenSpec.upto (s : _root_.Go.ChangeSpec) : _root_.Go.OpenSpec := { _root_.Go.OpenSpec.ofChange s with cond := some uptoSmall }

/-- 'laws.FnExactKernelValid', WHERE WHAT IT READS IS OF BULK AT MOST 1048576: true; the input reads as it did. -/
def fnExactKernelValidUptoRow : OpenClaim := { program := "ytojknkpjnchchaagreatdoor", sum := "5f5effc969cbe32a0276f2fa4fe6f73810d110ff9bd6ff963db2356fc7b68fe7", func := "loop.example/exopager/laws.FnExactKernelValid", spec := "fnExactKernelValid", inPlace := ["internal/bytealg.IndexByteString", "internal/bytealg.IndexString"], unfollowed := true, recurses := true, named := ["unicode/utf8.first", "unicode/utf8.acceptRanges", "internal/bytealg.MaxLen"], apart := false, laid := [("unicode/utf8.acceptRanges", laid_unicode_utf8_acceptRanges), ("unicode/utf8.first", laid_unicode_utf8_first)], narrowed := true }
def FnExactKernelValidUptoSaid : Prop := fnExactKernelValidUptoRow.holds Tryz.pinned (OpenSpec.upto fnExactKernelValidSpec)

/-- 'laws.FnExactKernelSees', WHERE WHAT IT READS IS OF BULK AT MOST 1048576: true; the input reads as it did. -/
def fnExactKernelSeesUptoRow : OpenClaim := { program := "ytojknkpjnchchaagreatdoor", sum := "5f5effc969cbe32a0276f2fa4fe6f73810d110ff9bd6ff963db2356fc7b68fe7", func := "loop.example/exopager/laws.FnExactKernelSees", spec := "fnExactKernelSees", inPlace := ["internal/bytealg.IndexByteString", "internal/bytealg.IndexString"], unfollowed := true, recurses := true, named := ["unicode/utf8.first", "unicode/utf8.acceptRanges", "internal/bytealg.MaxLen"], apart := false, laid := [("unicode/utf8.acceptRanges", laid_unicode_utf8_acceptRanges), ("unicode/utf8.first", laid_unicode_utf8_first)], narrowed := true }
def FnExactKernelSeesUptoSaid : Prop := fnExactKernelSeesUptoRow.holds Tryz.pinned (OpenSpec.upto fnExactKernelSeesSpec)

/-- 'laws.FnExactKernelReach', WHERE WHAT IT READS IS OF BULK AT MOST 1048576: true; the input reads as it did. -/
def fnExactKernelReachUptoRow : OpenClaim := { program := "ytojknkpjnchchaagreatdoor", sum := "5f5effc969cbe32a0276f2fa4fe6f73810d110ff9bd6ff963db2356fc7b68fe7", func := "loop.example/exopager/laws.FnExactKernelReach", spec := "fnExactKernelReach", inPlace := ["internal/bytealg.IndexByteString", "internal/bytealg.IndexString"], unfollowed := true, recurses := true, named := ["unicode/utf8.first", "unicode/utf8.acceptRanges", "internal/bytealg.MaxLen"], apart := false, laid := [("unicode/utf8.acceptRanges", laid_unicode_utf8_acceptRanges), ("unicode/utf8.first", laid_unicode_utf8_first)], narrowed := true }
def FnExactKernelReachUptoSaid : Prop := fnExactKernelReachUptoRow.holds Tryz.pinned (OpenSpec.upto fnExactKernelReachSpec)

/-- 'laws.FnKernelNew', WHERE WHAT IT READS IS OF BULK AT MOST 1048576: true; the input reads as it did. -/
def fnKernelNewUptoRow : OpenClaim := { program := "ytojknkpjnchchaagreatdoor", sum := "5f5effc969cbe32a0276f2fa4fe6f73810d110ff9bd6ff963db2356fc7b68fe7", func := "loop.example/exopager/laws.FnKernelNew", spec := "fnKernelNew", inPlace := ["internal/bytealg.IndexByteString", "internal/bytealg.IndexString"], unfollowed := true, recurses := true, named := ["unicode/utf8.first", "unicode/utf8.acceptRanges", "internal/bytealg.MaxLen"], apart := false, laid := [("unicode/utf8.acceptRanges", laid_unicode_utf8_acceptRanges), ("unicode/utf8.first", laid_unicode_utf8_first)], narrowed := true }
def FnKernelNewUptoSaid : Prop := fnKernelNewUptoRow.holds Tryz.pinned (OpenSpec.upto fnKernelNewSpec)

end Rows
end Go.Proofs.YtojknkpjnchchaaGreatDoor
