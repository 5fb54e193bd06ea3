/-
  NARROWER THAN 'FOR EVERY INPUT', by the rows' own cells (each row's printed sentence says how): FnRightCoversTwo: laid · FnRightsPart: laid · FnExactRightsMay: laid · FnRightsMayLong: laid · FnRightsMay: laid · FnExactRightsDrop: laid · FnRightsDrop: laid · FnExactRightsAdd: laid · FnRightsAddFull: laid · FnRightsAdd: laid.
  DERIVED. THE GIVEN ROWS OF THIS SEAT. 10 by the template 'for every input the law returns true; each argument reads behind the call as it read before'; 0 by the template 'total and deterministic' (their statements: YtldkmibmabpfmaaDoorTotals.lean).
  GIVEN WITH THE SEED: the statements are not yours to turn. If you find one false, say at which input.
  Laid BY PROGRAM, IN A SANDBOX (cutbox-rows.mjs): the forced cells as the released guide's own fill.sh prints them over the translation 2de046d94aea641b… (all of the seat's roots in one cut). By AI agents, Wed Nov 11 2026. No macro, syntax, notation, axiom, sorry.
-/
import Derived.Test.YtldkmibmabpfmaaDoorChecked
import GoSem.PinnedTables
import GoSem.Claim
import GoSem.ClaimJoined
import GoSem.ClaimMapViews
import Derived.JoinedTies
import Derived.KernelRfl
namespace Go.Proofs.YtldkmibmabpfmaaDoor
/- THE CELL 'sum', in the pinned program and in every row, IS THE sha256 OF THE DUMP (.gsa) THAT YtldkmibmabpfmaaDoorProg.lean LOADS. Nothing in Lean hashes anything: it is a label: what it is worth is what the hold of that sum in a sandbox is worth. -/
noncomputable def Tryd.pinned : Pinned := { name := "ytldkmibmabpfmaadoor", sum := "2de046d94aea641b0bf7399d2be683a3d8b5a63030d9d7b0d72e8e66dcd58149", checked := Tryd.checked }
namespace Rows
def none {H : Type} : Left H := { results := [], args := [] }

/- WHAT THE LISTED PACKAGE-LEVEL VARIABLES READ AS WHEN THE CALL BEGINS. Each datum BY PROGRAM (the guide's laid-datum.mjs) off the statement by which the dump's own 'gosem.cut.vars' lays the variable. In a bare row this is a premise. The card (YtldkmibmabpfmaaDoorCards.lean) ties it to the program's text. -/
def laid_unicode_utf8_acceptRanges {H : Type} : DataW H := .agg [.agg [.lit (.int .u8 128), .lit (.int .u8 191)], .agg [.lit (.int .u8 160), .lit (.int .u8 191)], .agg [.lit (.int .u8 128), .lit (.int .u8 159)], .agg [.lit (.int .u8 144), .lit (.int .u8 191)], .agg [.lit (.int .u8 128), .lit (.int .u8 143)], .agg [.lit (.int .u8 0), .lit (.int .u8 0)], .agg [.lit (.int .u8 0), .lit (.int .u8 0)], .agg [.lit (.int .u8 0), .lit (.int .u8 0)], .agg [.lit (.int .u8 0), .lit (.int .u8 0)], .agg [.lit (.int .u8 0), .lit (.int .u8 0)], .agg [.lit (.int .u8 0), .lit (.int .u8 0)], .agg [.lit (.int .u8 0), .lit (.int .u8 0)], .agg [.lit (.int .u8 0), .lit (.int .u8 0)], .agg [.lit (.int .u8 0), .lit (.int .u8 0)], .agg [.lit (.int .u8 0), .lit (.int .u8 0)], .agg [.lit (.int .u8 0), .lit (.int .u8 0)]]
/-- One of Go's own tables, pinned by name: the form's constant. -/
def laid_unicode_utf8_first : DataW Unit := Go.Pinned.utf8First

/-- 'laws.FnRightCoversTwo': WHATEVER THE INPUT: true; the input reads as it did. -/
def fnRightCoversTwoSpec : ChangeSpec := { name := "fnRightCoversTwo", fn := fun _ => fun
  | [d] => { results := [.lit (.bool true)], args := [d] }
  | _ => none }
def fnRightCoversTwoRow : OpenClaim := { program := "ytldkmibmabpfmaadoor", sum := "2de046d94aea641b0bf7399d2be683a3d8b5a63030d9d7b0d72e8e66dcd58149", func := "loop.example/exopager/laws.FnRightCoversTwo", spec := "fnRightCoversTwo", inPlace := ["internal/bytealg.IndexByteString", "internal/bytealg.IndexString"], named := ["unicode/utf8.first", "unicode/utf8.acceptRanges", "internal/bytealg.MaxLen"], apart := false, laid := [("unicode/utf8.acceptRanges", laid_unicode_utf8_acceptRanges), ("unicode/utf8.first", laid_unicode_utf8_first)] }
def FnRightCoversTwoSaid : Prop := fnRightCoversTwoRow.holds Tryd.pinned (OpenSpec.ofChange fnRightCoversTwoSpec)

/-- ITS FALSE NEIGHBOUR: 'it returns false'. Refute it at one input. -/
def fnRightCoversTwoWrong : ChangeSpec := { name := "fnRightCoversTwo", fn := fun _ => fun
  | [d] => { results := [.lit (.bool false)], args := [d] }
  | _ => none }
def FnRightCoversTwoWrongFalsely : Prop := fnRightCoversTwoRow.holds Tryd.pinned (OpenSpec.ofChange fnRightCoversTwoWrong)

/-- 'laws.FnRightsPart': WHATEVER THE INPUT: true; the input reads as it did. -/
def fnRightsPartSpec : ChangeSpec := { name := "fnRightsPart", fn := fun _ => fun
  | [d1, d2] => { results := [.lit (.bool true)], args := [d1, d2] }
  | _ => none }
def fnRightsPartRow : OpenClaim := { program := "ytldkmibmabpfmaadoor", sum := "2de046d94aea641b0bf7399d2be683a3d8b5a63030d9d7b0d72e8e66dcd58149", func := "loop.example/exopager/laws.FnRightsPart", spec := "fnRightsPart", inPlace := ["internal/bytealg.IndexByteString", "internal/bytealg.IndexString"], named := ["unicode/utf8.first", "unicode/utf8.acceptRanges", "internal/bytealg.MaxLen"], apart := false, laid := [("unicode/utf8.acceptRanges", laid_unicode_utf8_acceptRanges), ("unicode/utf8.first", laid_unicode_utf8_first)] }
def FnRightsPartSaid : Prop := fnRightsPartRow.holds Tryd.pinned (OpenSpec.ofChange fnRightsPartSpec)

/-- ITS FALSE NEIGHBOUR: 'it returns false'. Refute it at one input. -/
def fnRightsPartWrong : ChangeSpec := { name := "fnRightsPart", fn := fun _ => fun
  | [d1, d2] => { results := [.lit (.bool false)], args := [d1, d2] }
  | _ => none }
def FnRightsPartWrongFalsely : Prop := fnRightsPartRow.holds Tryd.pinned (OpenSpec.ofChange fnRightsPartWrong)

/-- 'laws.FnExactRightsMay': WHATEVER THE INPUT: true; the input reads as it did. -/
def fnExactRightsMaySpec : ChangeSpec := { name := "fnExactRightsMay", fn := fun _ => fun
  | [d1, d2] => { results := [.lit (.bool true)], args := [d1, d2] }
  | _ => none }
def fnExactRightsMayRow : OpenClaim := { program := "ytldkmibmabpfmaadoor", sum := "2de046d94aea641b0bf7399d2be683a3d8b5a63030d9d7b0d72e8e66dcd58149", func := "loop.example/exopager/laws.FnExactRightsMay", spec := "fnExactRightsMay", inPlace := ["internal/bytealg.IndexByteString", "internal/bytealg.IndexString"], unfollowed := true, recurses := true, named := ["unicode/utf8.first", "unicode/utf8.acceptRanges", "internal/bytealg.MaxLen"], apart := false, laid := [("unicode/utf8.acceptRanges", laid_unicode_utf8_acceptRanges), ("unicode/utf8.first", laid_unicode_utf8_first)] }
def FnExactRightsMaySaid : Prop := fnExactRightsMayRow.holds Tryd.pinned (OpenSpec.ofChange fnExactRightsMaySpec)

/-- ITS FALSE NEIGHBOUR: 'it returns false'. Refute it at one input. -/
def fnExactRightsMayWrong : ChangeSpec := { name := "fnExactRightsMay", fn := fun _ => fun
  | [d1, d2] => { results := [.lit (.bool false)], args := [d1, d2] }
  | _ => none }
def FnExactRightsMayWrongFalsely : Prop := fnExactRightsMayRow.holds Tryd.pinned (OpenSpec.ofChange fnExactRightsMayWrong)

/-- 'laws.FnRightsMayLong': WHATEVER THE INPUT: true; the input reads as it did. -/
def fnRightsMayLongSpec : ChangeSpec := { name := "fnRightsMayLong", fn := fun _ => fun
  | [d] => { results := [.lit (.bool true)], args := [d] }
  | _ => none }
def fnRightsMayLongRow : OpenClaim := { program := "ytldkmibmabpfmaadoor", sum := "2de046d94aea641b0bf7399d2be683a3d8b5a63030d9d7b0d72e8e66dcd58149", func := "loop.example/exopager/laws.FnRightsMayLong", spec := "fnRightsMayLong", inPlace := ["internal/bytealg.IndexByteString", "internal/bytealg.IndexString"], unfollowed := true, recurses := true, named := ["unicode/utf8.first", "unicode/utf8.acceptRanges", "internal/bytealg.MaxLen"], apart := false, laid := [("unicode/utf8.acceptRanges", laid_unicode_utf8_acceptRanges), ("unicode/utf8.first", laid_unicode_utf8_first)] }
def FnRightsMayLongSaid : Prop := fnRightsMayLongRow.holds Tryd.pinned (OpenSpec.ofChange fnRightsMayLongSpec)

/-- ITS FALSE NEIGHBOUR: 'it returns false'. Refute it at one input. -/
def fnRightsMayLongWrong : ChangeSpec := { name := "fnRightsMayLong", fn := fun _ => fun
  | [d] => { results := [.lit (.bool false)], args := [d] }
  | _ => none }
def FnRightsMayLongWrongFalsely : Prop := fnRightsMayLongRow.holds Tryd.pinned (OpenSpec.ofChange fnRightsMayLongWrong)

/-- 'laws.FnRightsMay': WHATEVER THE INPUT: true; the input reads as it did. -/
def fnRightsMaySpec : ChangeSpec := { name := "fnRightsMay", fn := fun _ => fun
  | [d] => { results := [.lit (.bool true)], args := [d] }
  | _ => none }
def fnRightsMayRow : OpenClaim := { program := "ytldkmibmabpfmaadoor", sum := "2de046d94aea641b0bf7399d2be683a3d8b5a63030d9d7b0d72e8e66dcd58149", func := "loop.example/exopager/laws.FnRightsMay", spec := "fnRightsMay", inPlace := ["internal/bytealg.IndexByteString", "internal/bytealg.IndexString"], unfollowed := true, recurses := true, named := ["unicode/utf8.first", "unicode/utf8.acceptRanges", "internal/bytealg.MaxLen"], apart := false, laid := [("unicode/utf8.acceptRanges", laid_unicode_utf8_acceptRanges), ("unicode/utf8.first", laid_unicode_utf8_first)] }
def FnRightsMaySaid : Prop := fnRightsMayRow.holds Tryd.pinned (OpenSpec.ofChange fnRightsMaySpec)

/-- ITS FALSE NEIGHBOUR: 'it returns false'. Refute it at one input. -/
def fnRightsMayWrong : ChangeSpec := { name := "fnRightsMay", fn := fun _ => fun
  | [d] => { results := [.lit (.bool false)], args := [d] }
  | _ => none }
def FnRightsMayWrongFalsely : Prop := fnRightsMayRow.holds Tryd.pinned (OpenSpec.ofChange fnRightsMayWrong)

/-- 'laws.FnExactRightsDrop': WHATEVER THE INPUT: true; the input reads as it did. -/
def fnExactRightsDropSpec : ChangeSpec := { name := "fnExactRightsDrop", fn := fun _ => fun
  | [d1, d2] => { results := [.lit (.bool true)], args := [d1, d2] }
  | _ => none }
def fnExactRightsDropRow : OpenClaim := { program := "ytldkmibmabpfmaadoor", sum := "2de046d94aea641b0bf7399d2be683a3d8b5a63030d9d7b0d72e8e66dcd58149", func := "loop.example/exopager/laws.FnExactRightsDrop", spec := "fnExactRightsDrop", inPlace := ["internal/bytealg.IndexByteString", "internal/bytealg.IndexString"], unfollowed := true, recurses := true, named := ["unicode/utf8.first", "unicode/utf8.acceptRanges", "internal/bytealg.MaxLen"], apart := false, laid := [("unicode/utf8.acceptRanges", laid_unicode_utf8_acceptRanges), ("unicode/utf8.first", laid_unicode_utf8_first)] }
def FnExactRightsDropSaid : Prop := fnExactRightsDropRow.holds Tryd.pinned (OpenSpec.ofChange fnExactRightsDropSpec)

/-- ITS FALSE NEIGHBOUR: 'it returns false'. Refute it at one input. -/
def fnExactRightsDropWrong : ChangeSpec := { name := "fnExactRightsDrop", fn := fun _ => fun
  | [d1, d2] => { results := [.lit (.bool false)], args := [d1, d2] }
  | _ => none }
def FnExactRightsDropWrongFalsely : Prop := fnExactRightsDropRow.holds Tryd.pinned (OpenSpec.ofChange fnExactRightsDropWrong)

/-- 'laws.FnRightsDrop': WHATEVER THE INPUT: true; the input reads as it did. -/
def fnRightsDropSpec : ChangeSpec := { name := "fnRightsDrop", fn := fun _ => fun
  | [d] => { results := [.lit (.bool true)], args := [d] }
  | _ => none }
def fnRightsDropRow : OpenClaim := { program := "ytldkmibmabpfmaadoor", sum := "2de046d94aea641b0bf7399d2be683a3d8b5a63030d9d7b0d72e8e66dcd58149", func := "loop.example/exopager/laws.FnRightsDrop", spec := "fnRightsDrop", inPlace := ["internal/bytealg.IndexByteString", "internal/bytealg.IndexString"], unfollowed := true, recurses := true, named := ["unicode/utf8.first", "unicode/utf8.acceptRanges", "internal/bytealg.MaxLen"], apart := false, laid := [("unicode/utf8.acceptRanges", laid_unicode_utf8_acceptRanges), ("unicode/utf8.first", laid_unicode_utf8_first)] }
def FnRightsDropSaid : Prop := fnRightsDropRow.holds Tryd.pinned (OpenSpec.ofChange fnRightsDropSpec)

/-- ITS FALSE NEIGHBOUR: 'it returns false'. Refute it at one input. -/
def fnRightsDropWrong : ChangeSpec := { name := "fnRightsDrop", fn := fun _ => fun
  | [d] => { results := [.lit (.bool false)], args := [d] }
  | _ => none }
def FnRightsDropWrongFalsely : Prop := fnRightsDropRow.holds Tryd.pinned (OpenSpec.ofChange fnRightsDropWrong)

/-- 'laws.FnExactRightsAdd': WHATEVER THE INPUT: true; the input reads as it did. -/
def fnExactRightsAddSpec : ChangeSpec := { name := "fnExactRightsAdd", fn := fun _ => fun
  | [d1, d2] => { results := [.lit (.bool true)], args := [d1, d2] }
  | _ => none }
def fnExactRightsAddRow : OpenClaim := { program := "ytldkmibmabpfmaadoor", sum := "2de046d94aea641b0bf7399d2be683a3d8b5a63030d9d7b0d72e8e66dcd58149", func := "loop.example/exopager/laws.FnExactRightsAdd", spec := "fnExactRightsAdd", inPlace := ["internal/bytealg.IndexByteString", "internal/bytealg.IndexString", "slices.overlaps[string]"], named := ["unicode/utf8.first", "unicode/utf8.acceptRanges", "internal/bytealg.MaxLen"], apart := false, laid := [("unicode/utf8.acceptRanges", laid_unicode_utf8_acceptRanges), ("unicode/utf8.first", laid_unicode_utf8_first)] }
def FnExactRightsAddSaid : Prop := fnExactRightsAddRow.holds Tryd.pinned (OpenSpec.ofChange fnExactRightsAddSpec)

/-- ITS FALSE NEIGHBOUR: 'it returns false'. Refute it at one input. -/
def fnExactRightsAddWrong : ChangeSpec := { name := "fnExactRightsAdd", fn := fun _ => fun
  | [d1, d2] => { results := [.lit (.bool false)], args := [d1, d2] }
  | _ => none }
def FnExactRightsAddWrongFalsely : Prop := fnExactRightsAddRow.holds Tryd.pinned (OpenSpec.ofChange fnExactRightsAddWrong)

/-- 'laws.FnRightsAddFull': WHATEVER THE INPUT: true; the input reads as it did. -/
def fnRightsAddFullSpec : ChangeSpec := { name := "fnRightsAddFull", fn := fun _ => fun
  | [d] => { results := [.lit (.bool true)], args := [d] }
  | _ => none }
def fnRightsAddFullRow : OpenClaim := { program := "ytldkmibmabpfmaadoor", sum := "2de046d94aea641b0bf7399d2be683a3d8b5a63030d9d7b0d72e8e66dcd58149", func := "loop.example/exopager/laws.FnRightsAddFull", spec := "fnRightsAddFull", inPlace := ["internal/bytealg.IndexByteString", "internal/bytealg.IndexString", "slices.overlaps[string]"], named := ["unicode/utf8.first", "unicode/utf8.acceptRanges", "internal/bytealg.MaxLen"], apart := false, laid := [("unicode/utf8.acceptRanges", laid_unicode_utf8_acceptRanges), ("unicode/utf8.first", laid_unicode_utf8_first)] }
def FnRightsAddFullSaid : Prop := fnRightsAddFullRow.holds Tryd.pinned (OpenSpec.ofChange fnRightsAddFullSpec)

/-- ITS FALSE NEIGHBOUR: 'it returns false'. Refute it at one input. -/
def fnRightsAddFullWrong : ChangeSpec := { name := "fnRightsAddFull", fn := fun _ => fun
  | [d] => { results := [.lit (.bool false)], args := [d] }
  | _ => none }
def FnRightsAddFullWrongFalsely : Prop := fnRightsAddFullRow.holds Tryd.pinned (OpenSpec.ofChange fnRightsAddFullWrong)

/-- 'laws.FnRightsAdd': WHATEVER THE INPUT: true; the input reads as it did. -/
def fnRightsAddSpec : ChangeSpec := { name := "fnRightsAdd", fn := fun _ => fun
  | [d] => { results := [.lit (.bool true)], args := [d] }
  | _ => none }
def fnRightsAddRow : OpenClaim := { program := "ytldkmibmabpfmaadoor", sum := "2de046d94aea641b0bf7399d2be683a3d8b5a63030d9d7b0d72e8e66dcd58149", func := "loop.example/exopager/laws.FnRightsAdd", spec := "fnRightsAdd", inPlace := ["internal/bytealg.IndexByteString", "internal/bytealg.IndexString", "slices.overlaps[string]"], unfollowed := true, recurses := true, named := ["unicode/utf8.first", "unicode/utf8.acceptRanges", "internal/bytealg.MaxLen"], apart := false, laid := [("unicode/utf8.acceptRanges", laid_unicode_utf8_acceptRanges), ("unicode/utf8.first", laid_unicode_utf8_first)] }
def FnRightsAddSaid : Prop := fnRightsAddRow.holds Tryd.pinned (OpenSpec.ofChange fnRightsAddSpec)

/-- ITS FALSE NEIGHBOUR: 'it returns false'. Refute it at one input. -/
def fnRightsAddWrong : ChangeSpec := { name := "fnRightsAdd", fn := fun _ => fun
  | [d] => { results := [.lit (.bool false)], args := [d] }
  | _ => none }
def FnRightsAddWrongFalsely : Prop := fnRightsAddRow.holds Tryd.pinned (OpenSpec.ofChange fnRightsAddWrong)

/- THE SECOND FORM. 'bulk': how many values and letters a reading holds, each counted each time it is reached (what is shared counts as often as it is met; a slice's spare places count too). A statement '..UptoSaid' is the law's where the arguments, and the package variables that the reading takes, are together of bulk at most 1048576: NARROWER than '..Said'. Prove '..Said' where nothing that the law and all that it calls make is longer than what came in: it says more and counts as full. Else prove '..UptoSaid'. A law counts once. -/
mutual
def uptoBulk {H : Type} : DataW H → Nat
  | .lit (.string bytes) => bytes.length + 1
  | .lit _ => 1
  | .nil => 1
  | .ptr d => uptoBulk d + 1
  | .slice elems spare => uptoBulkAll elems + uptoBulkAll spare + 1
  | .agg parts => uptoBulkAll parts + 1
  | .iface _ d => uptoBulk d + 1
  | .map entries => uptoBulkEntries entries + 1
  | .held _ => 1
def uptoBulkAll {H : Type} : List (DataW H) → Nat
  | [] => 0
  | d :: r => uptoBulk d + uptoBulkAll r
def uptoBulkEntries {H : Type} : List (Lit × DataW H) → Nat
  | [] => 0
  | x :: r => uptoBulkEntry x + uptoBulkEntries r
def uptoBulkEntry {H : Type} : Lit × DataW H → Nat
  | (.string bytes, d) => bytes.length + uptoBulk d + 1
  | (_, d) => uptoBulk d + 1
 end
def uptoSmall : (H : Type) → List (DataW H) → Bool := fun _ ds => decide (uptoBulkAll ds ≤ 1048576)
def OpenSpec.upto (s : _root_.Go.ChangeSpec) : _root_.Go.OpenSpec := { _root_.Go.OpenSpec.ofChange s with cond := some uptoSmall }

/-- 'laws.FnRightCoversTwo', WHERE WHAT IT READS IS OF BULK AT MOST 1048576: true; the input reads as it did. -/
def fnRightCoversTwoUptoRow : OpenClaim := { program := "ytldkmibmabpfmaadoor", sum := "2de046d94aea641b0bf7399d2be683a3d8b5a63030d9d7b0d72e8e66dcd58149", func := "loop.example/exopager/laws.FnRightCoversTwo", spec := "fnRightCoversTwo", inPlace := ["internal/bytealg.IndexByteString", "internal/bytealg.IndexString"], named := ["unicode/utf8.first", "unicode/utf8.acceptRanges", "internal/bytealg.MaxLen"], apart := false, laid := [("unicode/utf8.acceptRanges", laid_unicode_utf8_acceptRanges), ("unicode/utf8.first", laid_unicode_utf8_first)], narrowed := true }
def FnRightCoversTwoUptoSaid : Prop := fnRightCoversTwoUptoRow.holds Tryd.pinned (OpenSpec.upto fnRightCoversTwoSpec)

/-- 'laws.FnRightsPart', WHERE WHAT IT READS IS OF BULK AT MOST 1048576: true; the input reads as it did. -/
def fnRightsPartUptoRow : OpenClaim := { program := "ytldkmibmabpfmaadoor", sum := "2de046d94aea641b0bf7399d2be683a3d8b5a63030d9d7b0d72e8e66dcd58149", func := "loop.example/exopager/laws.FnRightsPart", spec := "fnRightsPart", inPlace := ["internal/bytealg.IndexByteString", "internal/bytealg.IndexString"], named := ["unicode/utf8.first", "unicode/utf8.acceptRanges", "internal/bytealg.MaxLen"], apart := false, laid := [("unicode/utf8.acceptRanges", laid_unicode_utf8_acceptRanges), ("unicode/utf8.first", laid_unicode_utf8_first)], narrowed := true }
def FnRightsPartUptoSaid : Prop := fnRightsPartUptoRow.holds Tryd.pinned (OpenSpec.upto fnRightsPartSpec)

/-- 'laws.FnExactRightsMay', WHERE WHAT IT READS IS OF BULK AT MOST 1048576: true; the input reads as it did. -/
def fnExactRightsMayUptoRow : OpenClaim := { program := "ytldkmibmabpfmaadoor", sum := "2de046d94aea641b0bf7399d2be683a3d8b5a63030d9d7b0d72e8e66dcd58149", func := "loop.example/exopager/laws.FnExactRightsMay", spec := "fnExactRightsMay", inPlace := ["internal/bytealg.IndexByteString", "internal/bytealg.IndexString"], unfollowed := true, recurses := true, named := ["unicode/utf8.first", "unicode/utf8.acceptRanges", "internal/bytealg.MaxLen"], apart := false, laid := [("unicode/utf8.acceptRanges", laid_unicode_utf8_acceptRanges), ("unicode/utf8.first", laid_unicode_utf8_first)], narrowed := true }
def FnExactRightsMayUptoSaid : Prop := fnExactRightsMayUptoRow.holds Tryd.pinned (OpenSpec.upto fnExactRightsMaySpec)

/-- 'laws.FnRightsMayLong', WHERE WHAT IT READS IS OF BULK AT MOST 1048576: true; the input reads as it did. -/
def fnRightsMayLongUptoRow : OpenClaim := { program := "ytldkmibmabpfmaadoor", sum := "2de046d94aea641b0bf7399d2be683a3d8b5a63030d9d7b0d72e8e66dcd58149", func := "loop.example/exopager/laws.FnRightsMayLong", spec := "fnRightsMayLong", inPlace := ["internal/bytealg.IndexByteString", "internal/bytealg.IndexString"], unfollowed := true, recurses := true, named := ["unicode/utf8.first", "unicode/utf8.acceptRanges", "internal/bytealg.MaxLen"], apart := false, laid := [("unicode/utf8.acceptRanges", laid_unicode_utf8_acceptRanges), ("unicode/utf8.first", laid_unicode_utf8_first)], narrowed := true }
def FnRightsMayLongUptoSaid : Prop := fnRightsMayLongUptoRow.holds Tryd.pinned (OpenSpec.upto fnRightsMayLongSpec)

/-- 'laws.FnRightsMay', WHERE WHAT IT READS IS OF BULK AT MOST 1048576: true; the input reads as it did. -/
def fnRightsMayUptoRow : OpenClaim := { program := "ytldkmibmabpfmaadoor", sum := "2de046d94aea641b0bf7399d2be683a3d8b5a63030d9d7b0d72e8e66dcd58149", func := "loop.example/exopager/laws.FnRightsMay", spec := "fnRightsMay", inPlace := ["internal/bytealg.IndexByteString", "internal/bytealg.IndexString"], unfollowed := true, recurses := true, named := ["unicode/utf8.first", "unicode/utf8.acceptRanges", "internal/bytealg.MaxLen"], apart := false, laid := [("unicode/utf8.acceptRanges", laid_unicode_utf8_acceptRanges), ("unicode/utf8.first", laid_unicode_utf8_first)], narrowed := true }
def FnRightsMayUptoSaid : Prop := fnRightsMayUptoRow.holds Tryd.pinned (OpenSpec.upto fnRightsMaySpec)

/-- 'laws.FnExactRightsDrop', WHERE WHAT IT READS IS OF BULK AT MOST 1048576: true; the input reads as it did. -/
def fnExactRightsDropUptoRow : OpenClaim := { program := "ytldkmibmabpfmaadoor", sum := "2de046d94aea641b0bf7399d2be683a3d8b5a63030d9d7b0d72e8e66dcd58149", func := "loop.example/exopager/laws.FnExactRightsDrop", spec := "fnExactRightsDrop", inPlace := ["internal/bytealg.IndexByteString", "internal/bytealg.IndexString"], unfollowed := true, recurses := true, named := ["unicode/utf8.first", "unicode/utf8.acceptRanges", "internal/bytealg.MaxLen"], apart := false, laid := [("unicode/utf8.acceptRanges", laid_unicode_utf8_acceptRanges), ("unicode/utf8.first", laid_unicode_utf8_first)], narrowed := true }
def FnExactRightsDropUptoSaid : Prop := fnExactRightsDropUptoRow.holds Tryd.pinned (OpenSpec.upto fnExactRightsDropSpec)

/-- 'laws.FnRightsDrop', WHERE WHAT IT READS IS OF BULK AT MOST 1048576: true; the input reads as it did. -/
def fnRightsDropUptoRow : OpenClaim := { program := "ytldkmibmabpfmaadoor", sum := "2de046d94aea641b0bf7399d2be683a3d8b5a63030d9d7b0d72e8e66dcd58149", func := "loop.example/exopager/laws.FnRightsDrop", spec := "fnRightsDrop", inPlace := ["internal/bytealg.IndexByteString", "internal/bytealg.IndexString"], unfollowed := true, recurses := true, named := ["unicode/utf8.first", "unicode/utf8.acceptRanges", "internal/bytealg.MaxLen"], apart := false, laid := [("unicode/utf8.acceptRanges", laid_unicode_utf8_acceptRanges), ("unicode/utf8.first", laid_unicode_utf8_first)], narrowed := true }
def FnRightsDropUptoSaid : Prop := fnRightsDropUptoRow.holds Tryd.pinned (OpenSpec.upto fnRightsDropSpec)

/-- 'laws.FnExactRightsAdd', WHERE WHAT IT READS IS OF BULK AT MOST 1048576: true; the input reads as it did. -/
def fnExactRightsAddUptoRow : OpenClaim := { program := "ytldkmibmabpfmaadoor", sum := "2de046d94aea641b0bf7399d2be683a3d8b5a63030d9d7b0d72e8e66dcd58149", func := "loop.example/exopager/laws.FnExactRightsAdd", spec := "fnExactRightsAdd", inPlace := ["internal/bytealg.IndexByteString", "internal/bytealg.IndexString", "slices.overlaps[string]"], named := ["unicode/utf8.first", "unicode/utf8.acceptRanges", "internal/bytealg.MaxLen"], apart := false, laid := [("unicode/utf8.acceptRanges", laid_unicode_utf8_acceptRanges), ("unicode/utf8.first", laid_unicode_utf8_first)], narrowed := true }
def FnExactRightsAddUptoSaid : Prop := fnExactRightsAddUptoRow.holds Tryd.pinned (OpenSpec.upto fnExactRightsAddSpec)

/-- 'laws.FnRightsAddFull', WHERE WHAT IT READS IS OF BULK AT MOST 1048576: true; the input reads as it did. -/
def fnRightsAddFullUptoRow : OpenClaim := { program := "ytldkmibmabpfmaadoor", sum := "2de046d94aea641b0bf7399d2be683a3d8b5a63030d9d7b0d72e8e66dcd58149", func := "loop.example/exopager/laws.FnRightsAddFull", spec := "fnRightsAddFull", inPlace := ["internal/bytealg.IndexByteString", "internal/bytealg.IndexString", "slices.overlaps[string]"], named := ["unicode/utf8.first", "unicode/utf8.acceptRanges", "internal/bytealg.MaxLen"], apart := false, laid := [("unicode/utf8.acceptRanges", laid_unicode_utf8_acceptRanges), ("unicode/utf8.first", laid_unicode_utf8_first)], narrowed := true }
def FnRightsAddFullUptoSaid : Prop := fnRightsAddFullUptoRow.holds Tryd.pinned (OpenSpec.upto fnRightsAddFullSpec)

/-- 'laws.FnRightsAdd', WHERE WHAT IT READS IS OF BULK AT MOST 1048576: true; the input reads as it did. -/
def fnRightsAddUptoRow : OpenClaim := { program := "ytldkmibmabpfmaadoor", sum := "2de046d94aea641b0bf7399d2be683a3d8b5a63030d9d7b0d72e8e66dcd58149", func := "loop.example/exopager/laws.FnRightsAdd", spec := "fnRightsAdd", inPlace := ["internal/bytealg.IndexByteString", "internal/bytealg.IndexString", "slices.overlaps[string]"], unfollowed := true, recurses := true, named := ["unicode/utf8.first", "unicode/utf8.acceptRanges", "internal/bytealg.MaxLen"], apart := false, laid := [("unicode/utf8.acceptRanges", laid_unicode_utf8_acceptRanges), ("unicode/utf8.first", laid_unicode_utf8_first)], narrowed := true }
def FnRightsAddUptoSaid : Prop := fnRightsAddUptoRow.holds Tryd.pinned (OpenSpec.upto fnRightsAddSpec)

end Rows
end Go.Proofs.YtldkmibmabpfmaaDoor
