/-
  NARROWER THAN 'FOR EVERY INPUT', by the rows' own cells (each row's printed sentence says how): FnTableCount: laid · FnTableOk: laid · FnTableEmpty: laid · FnUnpin: laid · FnTableSelf: laid · FnPinBusy: laid · FnPinOthers: laid · FnPinBad: laid · FnPinBack: laid · FnPin: laid · FnExactTablePin: laid.
  DERIVED. THE GIVEN ROWS OF THIS SEAT. 11 by the template 'for every input the law returns true; each argument reads behind the call as it read before'; 0 by the template 'total and deterministic' (their statements: YtklphfmjdgnpnaaDoorTotals.lean).
  GIVEN WITH THE SEED: the statements are not yours to turn. If you find one false, say at which input.
  Laid BY PROGRAM, IN A SANDBOX (cutbox-rows.mjs): the forced cells as the released guide's own fill.sh prints them over the translation 849cedac63dab1a0… (all of the seat's roots in one cut). By AI agents, Wed Nov 11 2026. No macro, syntax, notation, axiom, sorry.
-/
import Derived.Test.YtklphfmjdgnpnaaDoorChecked
import GoSem.PinnedTables
import GoSem.Claim
import GoSem.ClaimJoined
import GoSem.ClaimMapViews
import Derived.JoinedTies
import Derived.KernelRfl
namespace Go.Proofs.YtklphfmjdgnpnaaDoor
/- THE CELL 'sum', in the pinned program and in every row, IS THE sha256 OF THE DUMP (.gsa) THAT YtklphfmjdgnpnaaDoorProg.lean LOADS. Nothing in Lean hashes anything: it is a label: what it is worth is what the hold of that sum in a sandbox is worth. -/
noncomputable def Tryd.pinned : Pinned := { name := "ytklphfmjdgnpnaadoor", sum := "849cedac63dab1a005427e61ad844b38f4fe4d77514cbf54bb4ed5a01db8ff3d", checked := Tryd.checked }
namespace Rows
def none {H : Type} : Left H := { results := [], args := [] }

/- WHAT THE LISTED PACKAGE-LEVEL VARIABLES READ AS WHEN THE CALL BEGINS. Each datum BY PROGRAM (the guide's laid-datum.mjs) off the statement by which the dump's own 'gosem.cut.vars' lays the variable. In a bare row this is a premise. The card (YtklphfmjdgnpnaaDoorCards.lean) ties it to the program's text. -/
def laid_unicode_utf8_acceptRanges {H : Type} : DataW H := .agg [.agg [.lit (.int .u8 128), .lit (.int .u8 191)], .agg [.lit (.int .u8 160), .lit (.int .u8 191)], .agg [.lit (.int .u8 128), .lit (.int .u8 159)], .agg [.lit (.int .u8 144), .lit (.int .u8 191)], .agg [.lit (.int .u8 128), .lit (.int .u8 143)], .agg [.lit (.int .u8 0), .lit (.int .u8 0)], .agg [.lit (.int .u8 0), .lit (.int .u8 0)], .agg [.lit (.int .u8 0), .lit (.int .u8 0)], .agg [.lit (.int .u8 0), .lit (.int .u8 0)], .agg [.lit (.int .u8 0), .lit (.int .u8 0)], .agg [.lit (.int .u8 0), .lit (.int .u8 0)], .agg [.lit (.int .u8 0), .lit (.int .u8 0)], .agg [.lit (.int .u8 0), .lit (.int .u8 0)], .agg [.lit (.int .u8 0), .lit (.int .u8 0)], .agg [.lit (.int .u8 0), .lit (.int .u8 0)], .agg [.lit (.int .u8 0), .lit (.int .u8 0)]]
/-- One of Go's own tables, pinned by name: the form's constant. -/
def laid_unicode_utf8_first : DataW Unit := Go.Pinned.utf8First

/-- 'laws.FnTableCount': WHATEVER THE INPUT: true; the input reads as it did. -/
def fnTableCountSpec : ChangeSpec := { name := "fnTableCount", fn := fun _ => fun
  | [d] => { results := [.lit (.bool true)], args := [d] }
  | _ => none }
def fnTableCountRow : OpenClaim := { program := "ytklphfmjdgnpnaadoor", sum := "849cedac63dab1a005427e61ad844b38f4fe4d77514cbf54bb4ed5a01db8ff3d", func := "loop.example/exopager/laws.FnTableCount", spec := "fnTableCount", inPlace := ["internal/bytealg.IndexByteString", "internal/bytealg.IndexString"], unfollowed := true, recurses := true, named := ["unicode/utf8.first", "unicode/utf8.acceptRanges", "internal/bytealg.MaxLen"], apart := false, laid := [("unicode/utf8.acceptRanges", laid_unicode_utf8_acceptRanges), ("unicode/utf8.first", laid_unicode_utf8_first)] }
def FnTableCountSaid : Prop := fnTableCountRow.holds Tryd.pinned (OpenSpec.ofChange fnTableCountSpec)

/-- ITS FALSE NEIGHBOUR: 'it returns false'. Refute it at one input. -/
def fnTableCountWrong : ChangeSpec := { name := "fnTableCount", fn := fun _ => fun
  | [d] => { results := [.lit (.bool false)], args := [d] }
  | _ => none }
def FnTableCountWrongFalsely : Prop := fnTableCountRow.holds Tryd.pinned (OpenSpec.ofChange fnTableCountWrong)

/-- 'laws.FnTableOk': WHATEVER THE INPUT: true; the input reads as it did. -/
def fnTableOkSpec : ChangeSpec := { name := "fnTableOk", fn := fun _ => fun
  | [d] => { results := [.lit (.bool true)], args := [d] }
  | _ => none }
def fnTableOkRow : OpenClaim := { program := "ytklphfmjdgnpnaadoor", sum := "849cedac63dab1a005427e61ad844b38f4fe4d77514cbf54bb4ed5a01db8ff3d", func := "loop.example/exopager/laws.FnTableOk", spec := "fnTableOk", inPlace := ["internal/bytealg.IndexByteString", "internal/bytealg.IndexString"], unfollowed := true, recurses := true, named := ["unicode/utf8.first", "unicode/utf8.acceptRanges", "internal/bytealg.MaxLen"], apart := false, laid := [("unicode/utf8.acceptRanges", laid_unicode_utf8_acceptRanges), ("unicode/utf8.first", laid_unicode_utf8_first)] }
def FnTableOkSaid : Prop := fnTableOkRow.holds Tryd.pinned (OpenSpec.ofChange fnTableOkSpec)

/-- ITS FALSE NEIGHBOUR: 'it returns false'. Refute it at one input. -/
def fnTableOkWrong : ChangeSpec := { name := "fnTableOk", fn := fun _ => fun
  | [d] => { results := [.lit (.bool false)], args := [d] }
  | _ => none }
def FnTableOkWrongFalsely : Prop := fnTableOkRow.holds Tryd.pinned (OpenSpec.ofChange fnTableOkWrong)

/-- 'laws.FnTableEmpty': WHATEVER THE INPUT: true; the input reads as it did. -/
def fnTableEmptySpec : ChangeSpec := { name := "fnTableEmpty", fn := fun _ => fun
  | [d] => { results := [.lit (.bool true)], args := [d] }
  | _ => none }
def fnTableEmptyRow : OpenClaim := { program := "ytklphfmjdgnpnaadoor", sum := "849cedac63dab1a005427e61ad844b38f4fe4d77514cbf54bb4ed5a01db8ff3d", func := "loop.example/exopager/laws.FnTableEmpty", spec := "fnTableEmpty", inPlace := ["internal/bytealg.IndexByteString", "internal/bytealg.IndexString"], unfollowed := true, recurses := true, named := ["unicode/utf8.first", "unicode/utf8.acceptRanges", "internal/bytealg.MaxLen"], apart := false, laid := [("unicode/utf8.acceptRanges", laid_unicode_utf8_acceptRanges), ("unicode/utf8.first", laid_unicode_utf8_first)] }
def FnTableEmptySaid : Prop := fnTableEmptyRow.holds Tryd.pinned (OpenSpec.ofChange fnTableEmptySpec)

/-- ITS FALSE NEIGHBOUR: 'it returns false'. Refute it at one input. -/
def fnTableEmptyWrong : ChangeSpec := { name := "fnTableEmpty", fn := fun _ => fun
  | [d] => { results := [.lit (.bool false)], args := [d] }
  | _ => none }
def FnTableEmptyWrongFalsely : Prop := fnTableEmptyRow.holds Tryd.pinned (OpenSpec.ofChange fnTableEmptyWrong)

/-- 'laws.FnUnpin': WHATEVER THE INPUT: true; the input reads as it did. -/
def fnUnpinSpec : ChangeSpec := { name := "fnUnpin", fn := fun _ => fun
  | [d] => { results := [.lit (.bool true)], args := [d] }
  | _ => none }
def fnUnpinRow : OpenClaim := { program := "ytklphfmjdgnpnaadoor", sum := "849cedac63dab1a005427e61ad844b38f4fe4d77514cbf54bb4ed5a01db8ff3d", func := "loop.example/exopager/laws.FnUnpin", spec := "fnUnpin", inPlace := ["internal/bytealg.IndexByteString", "internal/bytealg.IndexString"], unfollowed := true, recurses := true, named := ["unicode/utf8.first", "unicode/utf8.acceptRanges", "internal/bytealg.MaxLen"], apart := false, laid := [("unicode/utf8.acceptRanges", laid_unicode_utf8_acceptRanges), ("unicode/utf8.first", laid_unicode_utf8_first)] }
def FnUnpinSaid : Prop := fnUnpinRow.holds Tryd.pinned (OpenSpec.ofChange fnUnpinSpec)

/-- ITS FALSE NEIGHBOUR: 'it returns false'. Refute it at one input. -/
def fnUnpinWrong : ChangeSpec := { name := "fnUnpin", fn := fun _ => fun
  | [d] => { results := [.lit (.bool false)], args := [d] }
  | _ => none }
def FnUnpinWrongFalsely : Prop := fnUnpinRow.holds Tryd.pinned (OpenSpec.ofChange fnUnpinWrong)

/-- 'laws.FnTableSelf': WHATEVER THE INPUT: true; the input reads as it did. -/
def fnTableSelfSpec : ChangeSpec := { name := "fnTableSelf", fn := fun _ => fun
  | [d] => { results := [.lit (.bool true)], args := [d] }
  | _ => none }
def fnTableSelfRow : OpenClaim := { program := "ytklphfmjdgnpnaadoor", sum := "849cedac63dab1a005427e61ad844b38f4fe4d77514cbf54bb4ed5a01db8ff3d", func := "loop.example/exopager/laws.FnTableSelf", spec := "fnTableSelf", inPlace := ["internal/bytealg.IndexByteString", "internal/bytealg.IndexString"], unfollowed := true, recurses := true, named := ["unicode/utf8.first", "unicode/utf8.acceptRanges", "internal/bytealg.MaxLen"], apart := false, laid := [("unicode/utf8.acceptRanges", laid_unicode_utf8_acceptRanges), ("unicode/utf8.first", laid_unicode_utf8_first)] }
def FnTableSelfSaid : Prop := fnTableSelfRow.holds Tryd.pinned (OpenSpec.ofChange fnTableSelfSpec)

/-- ITS FALSE NEIGHBOUR: 'it returns false'. Refute it at one input. -/
def fnTableSelfWrong : ChangeSpec := { name := "fnTableSelf", fn := fun _ => fun
  | [d] => { results := [.lit (.bool false)], args := [d] }
  | _ => none }
def FnTableSelfWrongFalsely : Prop := fnTableSelfRow.holds Tryd.pinned (OpenSpec.ofChange fnTableSelfWrong)

/-- 'laws.FnPinBusy': WHATEVER THE INPUT: true; the input reads as it did. -/
def fnPinBusySpec : ChangeSpec := { name := "fnPinBusy", fn := fun _ => fun
  | [d] => { results := [.lit (.bool true)], args := [d] }
  | _ => none }
def fnPinBusyRow : OpenClaim := { program := "ytklphfmjdgnpnaadoor", sum := "849cedac63dab1a005427e61ad844b38f4fe4d77514cbf54bb4ed5a01db8ff3d", func := "loop.example/exopager/laws.FnPinBusy", spec := "fnPinBusy", inPlace := ["internal/bytealg.IndexByteString", "internal/bytealg.IndexString"], unfollowed := true, recurses := true, named := ["unicode/utf8.first", "unicode/utf8.acceptRanges", "internal/bytealg.MaxLen"], apart := false, laid := [("unicode/utf8.acceptRanges", laid_unicode_utf8_acceptRanges), ("unicode/utf8.first", laid_unicode_utf8_first)] }
def FnPinBusySaid : Prop := fnPinBusyRow.holds Tryd.pinned (OpenSpec.ofChange fnPinBusySpec)

/-- ITS FALSE NEIGHBOUR: 'it returns false'. Refute it at one input. -/
def fnPinBusyWrong : ChangeSpec := { name := "fnPinBusy", fn := fun _ => fun
  | [d] => { results := [.lit (.bool false)], args := [d] }
  | _ => none }
def FnPinBusyWrongFalsely : Prop := fnPinBusyRow.holds Tryd.pinned (OpenSpec.ofChange fnPinBusyWrong)

/-- 'laws.FnPinOthers': WHATEVER THE INPUT: true; the input reads as it did. -/
def fnPinOthersSpec : ChangeSpec := { name := "fnPinOthers", fn := fun _ => fun
  | [d] => { results := [.lit (.bool true)], args := [d] }
  | _ => none }
def fnPinOthersRow : OpenClaim := { program := "ytklphfmjdgnpnaadoor", sum := "849cedac63dab1a005427e61ad844b38f4fe4d77514cbf54bb4ed5a01db8ff3d", func := "loop.example/exopager/laws.FnPinOthers", spec := "fnPinOthers", inPlace := ["internal/bytealg.IndexByteString", "internal/bytealg.IndexString"], unfollowed := true, recurses := true, named := ["unicode/utf8.first", "unicode/utf8.acceptRanges", "internal/bytealg.MaxLen"], apart := false, laid := [("unicode/utf8.acceptRanges", laid_unicode_utf8_acceptRanges), ("unicode/utf8.first", laid_unicode_utf8_first)] }
def FnPinOthersSaid : Prop := fnPinOthersRow.holds Tryd.pinned (OpenSpec.ofChange fnPinOthersSpec)

/-- ITS FALSE NEIGHBOUR: 'it returns false'. Refute it at one input. -/
def fnPinOthersWrong : ChangeSpec := { name := "fnPinOthers", fn := fun _ => fun
  | [d] => { results := [.lit (.bool false)], args := [d] }
  | _ => none }
def FnPinOthersWrongFalsely : Prop := fnPinOthersRow.holds Tryd.pinned (OpenSpec.ofChange fnPinOthersWrong)

/-- 'laws.FnPinBad': WHATEVER THE INPUT: true; the input reads as it did. -/
def fnPinBadSpec : ChangeSpec := { name := "fnPinBad", fn := fun _ => fun
  | [d] => { results := [.lit (.bool true)], args := [d] }
  | _ => none }
def fnPinBadRow : OpenClaim := { program := "ytklphfmjdgnpnaadoor", sum := "849cedac63dab1a005427e61ad844b38f4fe4d77514cbf54bb4ed5a01db8ff3d", func := "loop.example/exopager/laws.FnPinBad", spec := "fnPinBad", inPlace := ["internal/bytealg.IndexByteString", "internal/bytealg.IndexString"], unfollowed := true, recurses := true, named := ["unicode/utf8.first", "unicode/utf8.acceptRanges", "internal/bytealg.MaxLen"], apart := false, laid := [("unicode/utf8.acceptRanges", laid_unicode_utf8_acceptRanges), ("unicode/utf8.first", laid_unicode_utf8_first)] }
def FnPinBadSaid : Prop := fnPinBadRow.holds Tryd.pinned (OpenSpec.ofChange fnPinBadSpec)

/-- ITS FALSE NEIGHBOUR: 'it returns false'. Refute it at one input. -/
def fnPinBadWrong : ChangeSpec := { name := "fnPinBad", fn := fun _ => fun
  | [d] => { results := [.lit (.bool false)], args := [d] }
  | _ => none }
def FnPinBadWrongFalsely : Prop := fnPinBadRow.holds Tryd.pinned (OpenSpec.ofChange fnPinBadWrong)

/-- 'laws.FnPinBack': WHATEVER THE INPUT: true; the input reads as it did. -/
def fnPinBackSpec : ChangeSpec := { name := "fnPinBack", fn := fun _ => fun
  | [d] => { results := [.lit (.bool true)], args := [d] }
  | _ => none }
def fnPinBackRow : OpenClaim := { program := "ytklphfmjdgnpnaadoor", sum := "849cedac63dab1a005427e61ad844b38f4fe4d77514cbf54bb4ed5a01db8ff3d", func := "loop.example/exopager/laws.FnPinBack", spec := "fnPinBack", inPlace := ["internal/bytealg.IndexByteString", "internal/bytealg.IndexString"], unfollowed := true, recurses := true, named := ["unicode/utf8.first", "unicode/utf8.acceptRanges", "internal/bytealg.MaxLen"], apart := false, laid := [("unicode/utf8.acceptRanges", laid_unicode_utf8_acceptRanges), ("unicode/utf8.first", laid_unicode_utf8_first)] }
def FnPinBackSaid : Prop := fnPinBackRow.holds Tryd.pinned (OpenSpec.ofChange fnPinBackSpec)

/-- ITS FALSE NEIGHBOUR: 'it returns false'. Refute it at one input. -/
def fnPinBackWrong : ChangeSpec := { name := "fnPinBack", fn := fun _ => fun
  | [d] => { results := [.lit (.bool false)], args := [d] }
  | _ => none }
def FnPinBackWrongFalsely : Prop := fnPinBackRow.holds Tryd.pinned (OpenSpec.ofChange fnPinBackWrong)

/-- 'laws.FnPin': WHATEVER THE INPUT: true; the input reads as it did. -/
def fnPinSpec : ChangeSpec := { name := "fnPin", fn := fun _ => fun
  | [d] => { results := [.lit (.bool true)], args := [d] }
  | _ => none }
def fnPinRow : OpenClaim := { program := "ytklphfmjdgnpnaadoor", sum := "849cedac63dab1a005427e61ad844b38f4fe4d77514cbf54bb4ed5a01db8ff3d", func := "loop.example/exopager/laws.FnPin", spec := "fnPin", inPlace := ["internal/bytealg.IndexByteString", "internal/bytealg.IndexString"], unfollowed := true, recurses := true, named := ["unicode/utf8.first", "unicode/utf8.acceptRanges", "internal/bytealg.MaxLen"], apart := false, laid := [("unicode/utf8.acceptRanges", laid_unicode_utf8_acceptRanges), ("unicode/utf8.first", laid_unicode_utf8_first)] }
def FnPinSaid : Prop := fnPinRow.holds Tryd.pinned (OpenSpec.ofChange fnPinSpec)

/-- ITS FALSE NEIGHBOUR: 'it returns false'. Refute it at one input. -/
def fnPinWrong : ChangeSpec := { name := "fnPin", fn := fun _ => fun
  | [d] => { results := [.lit (.bool false)], args := [d] }
  | _ => none }
def FnPinWrongFalsely : Prop := fnPinRow.holds Tryd.pinned (OpenSpec.ofChange fnPinWrong)

/-- 'laws.FnExactTablePin': WHATEVER THE INPUT: true; the input reads as it did. -/
def fnExactTablePinSpec : ChangeSpec := { name := "fnExactTablePin", fn := fun _ => fun
  | [d1, d2, d3, d4, d5] => { results := [.lit (.bool true)], args := [d1, d2, d3, d4, d5] }
  | _ => none }
def fnExactTablePinRow : OpenClaim := { program := "ytklphfmjdgnpnaadoor", sum := "849cedac63dab1a005427e61ad844b38f4fe4d77514cbf54bb4ed5a01db8ff3d", func := "loop.example/exopager/laws.FnExactTablePin", spec := "fnExactTablePin", inPlace := ["internal/bytealg.IndexByteString", "internal/bytealg.IndexString"], unfollowed := true, recurses := true, named := ["unicode/utf8.first", "unicode/utf8.acceptRanges", "internal/bytealg.MaxLen"], apart := false, laid := [("unicode/utf8.acceptRanges", laid_unicode_utf8_acceptRanges), ("unicode/utf8.first", laid_unicode_utf8_first)] }
def FnExactTablePinSaid : Prop := fnExactTablePinRow.holds Tryd.pinned (OpenSpec.ofChange fnExactTablePinSpec)

/-- ITS FALSE NEIGHBOUR: 'it returns false'. Refute it at one input. -/
def fnExactTablePinWrong : ChangeSpec := { name := "fnExactTablePin", fn := fun _ => fun
  | [d1, d2, d3, d4, d5] => { results := [.lit (.bool false)], args := [d1, d2, d3, d4, d5] }
  | _ => none }
def FnExactTablePinWrongFalsely : Prop := fnExactTablePinRow.holds Tryd.pinned (OpenSpec.ofChange fnExactTablePinWrong)

/- THE SECOND FORM. 'bulk': how many values and letters a reading holds, each counted each time it is reached (what is shared counts as often as it is met; a slice's spare places count too). A statement '..UptoSaid' is the law's where the arguments, and the package variables that the reading takes, are together of bulk at most 1048576: NARROWER than '..Said'. Prove '..Said' where nothing that the law and all that it calls make is longer than what came in: it says more and counts as full. Else prove '..UptoSaid'. A law counts once. -/
mutual
def uptoBulk {H : Type} : DataW H → Nat
  | .lit (.string bytes) => bytes.length + 1
  | .lit _ => 1
  | .nil => 1
  | .ptr d => uptoBulk d + 1
  | .slice elems spare => uptoBulkAll elems + uptoBulkAll spare + 1
  | .agg parts => uptoBulkAll parts + 1
  | .iface _ d => uptoBulk d + 1
  | .map entries => uptoBulkEntries entries + 1
  | .held _ => 1
def uptoBulkAll {H : Type} : List (DataW H) → Nat
  | [] => 0
  | d :: r => uptoBulk d + uptoBulkAll r
def uptoBulkEntries {H : Type} : List (Lit × DataW H) → Nat
  | [] => 0
  | x :: r => uptoBulkEntry x + uptoBulkEntries r
def uptoBulkEntry {H : Type} : Lit × DataW H → Nat
  | (.string bytes, d) => bytes.length + uptoBulk d + 1
  | (_, d) => uptoBulk d + 1
 end
def uptoSmall : (H : Type) → List (DataW H) → Bool := fun _ ds => decide (uptoBulkAll ds ≤ 1048576)
def OpenSpec.upto (s : _root_.Go.ChangeSpec) : _root_.Go.OpenSpec := { _root_.Go.OpenSpec.ofChange s with cond := some uptoSmall }

/-- 'laws.FnTableCount', WHERE WHAT IT READS IS OF BULK AT MOST 1048576: true; the input reads as it did. -/
def fnTableCountUptoRow : OpenClaim := { program := "ytklphfmjdgnpnaadoor", sum := "849cedac63dab1a005427e61ad844b38f4fe4d77514cbf54bb4ed5a01db8ff3d", func := "loop.example/exopager/laws.FnTableCount", spec := "fnTableCount", inPlace := ["internal/bytealg.IndexByteString", "internal/bytealg.IndexString"], unfollowed := true, recurses := true, named := ["unicode/utf8.first", "unicode/utf8.acceptRanges", "internal/bytealg.MaxLen"], apart := false, laid := [("unicode/utf8.acceptRanges", laid_unicode_utf8_acceptRanges), ("unicode/utf8.first", laid_unicode_utf8_first)], narrowed := true }
def FnTableCountUptoSaid : Prop := fnTableCountUptoRow.holds Tryd.pinned (OpenSpec.upto fnTableCountSpec)

/-- 'laws.FnTableOk', WHERE WHAT IT READS IS OF BULK AT MOST 1048576: true; the input reads as it did. -/
def fnTableOkUptoRow : OpenClaim := { program := "ytklphfmjdgnpnaadoor", sum := "849cedac63dab1a005427e61ad844b38f4fe4d77514cbf54bb4ed5a01db8ff3d", func := "loop.example/exopager/laws.FnTableOk", spec := "fnTableOk", inPlace := ["internal/bytealg.IndexByteString", "internal/bytealg.IndexString"], unfollowed := true, recurses := true, named := ["unicode/utf8.first", "unicode/utf8.acceptRanges", "internal/bytealg.MaxLen"], apart := false, laid := [("unicode/utf8.acceptRanges", laid_unicode_utf8_acceptRanges), ("unicode/utf8.first", laid_unicode_utf8_first)], narrowed := true }
def FnTableOkUptoSaid : Prop := fnTableOkUptoRow.holds Tryd.pinned (OpenSpec.upto fnTableOkSpec)

/-- 'laws.FnTableEmpty', WHERE WHAT IT READS IS OF BULK AT MOST 1048576: true; the input reads as it did. -/
def fnTableEmptyUptoRow : OpenClaim := { program := "ytklphfmjdgnpnaadoor", sum := "849cedac63dab1a005427e61ad844b38f4fe4d77514cbf54bb4ed5a01db8ff3d", func := "loop.example/exopager/laws.FnTableEmpty", spec := "fnTableEmpty", inPlace := ["internal/bytealg.IndexByteString", "internal/bytealg.IndexString"], unfollowed := true, recurses := true, named := ["unicode/utf8.first", "unicode/utf8.acceptRanges", "internal/bytealg.MaxLen"], apart := false, laid := [("unicode/utf8.acceptRanges", laid_unicode_utf8_acceptRanges), ("unicode/utf8.first", laid_unicode_utf8_first)], narrowed := true }
def FnTableEmptyUptoSaid : Prop := fnTableEmptyUptoRow.holds Tryd.pinned (OpenSpec.upto fnTableEmptySpec)

/-- 'laws.FnUnpin', WHERE WHAT IT READS IS OF BULK AT MOST 1048576: true; the input reads as it did. -/
def fnUnpinUptoRow : OpenClaim := { program := "ytklphfmjdgnpnaadoor", sum := "849cedac63dab1a005427e61ad844b38f4fe4d77514cbf54bb4ed5a01db8ff3d", func := "loop.example/exopager/laws.FnUnpin", spec := "fnUnpin", inPlace := ["internal/bytealg.IndexByteString", "internal/bytealg.IndexString"], unfollowed := true, recurses := true, named := ["unicode/utf8.first", "unicode/utf8.acceptRanges", "internal/bytealg.MaxLen"], apart := false, laid := [("unicode/utf8.acceptRanges", laid_unicode_utf8_acceptRanges), ("unicode/utf8.first", laid_unicode_utf8_first)], narrowed := true }
def FnUnpinUptoSaid : Prop := fnUnpinUptoRow.holds Tryd.pinned (OpenSpec.upto fnUnpinSpec)

/-- 'laws.FnTableSelf', WHERE WHAT IT READS IS OF BULK AT MOST 1048576: true; the input reads as it did. -/
def fnTableSelfUptoRow : OpenClaim := { program := "ytklphfmjdgnpnaadoor", sum := "849cedac63dab1a005427e61ad844b38f4fe4d77514cbf54bb4ed5a01db8ff3d", func := "loop.example/exopager/laws.FnTableSelf", spec := "fnTableSelf", inPlace := ["internal/bytealg.IndexByteString", "internal/bytealg.IndexString"], unfollowed := true, recurses := true, named := ["unicode/utf8.first", "unicode/utf8.acceptRanges", "internal/bytealg.MaxLen"], apart := false, laid := [("unicode/utf8.acceptRanges", laid_unicode_utf8_acceptRanges), ("unicode/utf8.first", laid_unicode_utf8_first)], narrowed := true }
def FnTableSelfUptoSaid : Prop := fnTableSelfUptoRow.holds Tryd.pinned (OpenSpec.upto fnTableSelfSpec)

/-- 'laws.FnPinBusy', WHERE WHAT IT READS IS OF BULK AT MOST 1048576: true; the input reads as it did. -/
def fnPinBusyUptoRow : OpenClaim := { program := "ytklphfmjdgnpnaadoor", sum := "849cedac63dab1a005427e61ad844b38f4fe4d77514cbf54bb4ed5a01db8ff3d", func := "loop.example/exopager/laws.FnPinBusy", spec := "fnPinBusy", inPlace := ["internal/bytealg.IndexByteString", "internal/bytealg.IndexString"], unfollowed := true, recurses := true, named := ["unicode/utf8.first", "unicode/utf8.acceptRanges", "internal/bytealg.MaxLen"], apart := false, laid := [("unicode/utf8.acceptRanges", laid_unicode_utf8_acceptRanges), ("unicode/utf8.first", laid_unicode_utf8_first)], narrowed := true }
def FnPinBusyUptoSaid : Prop := fnPinBusyUptoRow.holds Tryd.pinned (OpenSpec.upto fnPinBusySpec)

/-- 'laws.FnPinOthers', WHERE WHAT IT READS IS OF BULK AT MOST 1048576: true; the input reads as it did. -/
def fnPinOthersUptoRow : OpenClaim := { program := "ytklphfmjdgnpnaadoor", sum := "849cedac63dab1a005427e61ad844b38f4fe4d77514cbf54bb4ed5a01db8ff3d", func := "loop.example/exopager/laws.FnPinOthers", spec := "fnPinOthers", inPlace := ["internal/bytealg.IndexByteString", "internal/bytealg.IndexString"], unfollowed := true, recurses := true, named := ["unicode/utf8.first", "unicode/utf8.acceptRanges", "internal/bytealg.MaxLen"], apart := false, laid := [("unicode/utf8.acceptRanges", laid_unicode_utf8_acceptRanges), ("unicode/utf8.first", laid_unicode_utf8_first)], narrowed := true }
def FnPinOthersUptoSaid : Prop := fnPinOthersUptoRow.holds Tryd.pinned (OpenSpec.upto fnPinOthersSpec)

/-- 'laws.FnPinBad', WHERE WHAT IT READS IS OF BULK AT MOST 1048576: true; the input reads as it did. -/
def fnPinBadUptoRow : OpenClaim := { program := "ytklphfmjdgnpnaadoor", sum := "849cedac63dab1a005427e61ad844b38f4fe4d77514cbf54bb4ed5a01db8ff3d", func := "loop.example/exopager/laws.FnPinBad", spec := "fnPinBad", inPlace := ["internal/bytealg.IndexByteString", "internal/bytealg.IndexString"], unfollowed := true, recurses := true, named := ["unicode/utf8.first", "unicode/utf8.acceptRanges", "internal/bytealg.MaxLen"], apart := false, laid := [("unicode/utf8.acceptRanges", laid_unicode_utf8_acceptRanges), ("unicode/utf8.first", laid_unicode_utf8_first)], narrowed := true }
def FnPinBadUptoSaid : Prop := fnPinBadUptoRow.holds Tryd.pinned (OpenSpec.upto fnPinBadSpec)

/-- 'laws.FnPinBack', WHERE WHAT IT READS IS OF BULK AT MOST 1048576: true; the input reads as it did. -/
def fnPinBackUptoRow : OpenClaim := { program := "ytklphfmjdgnpnaadoor", sum := "849cedac63dab1a005427e61ad844b38f4fe4d77514cbf54bb4ed5a01db8ff3d", func := "loop.example/exopager/laws.FnPinBack", spec := "fnPinBack", inPlace := ["internal/bytealg.IndexByteString", "internal/bytealg.IndexString"], unfollowed := true, recurses := true, named := ["unicode/utf8.first", "unicode/utf8.acceptRanges", "internal/bytealg.MaxLen"], apart := false, laid := [("unicode/utf8.acceptRanges", laid_unicode_utf8_acceptRanges), ("unicode/utf8.first", laid_unicode_utf8_first)], narrowed := true }
def FnPinBackUptoSaid : Prop := fnPinBackUptoRow.holds Tryd.pinned (OpenSpec.upto fnPinBackSpec)

/-- 'laws.FnPin', WHERE WHAT IT READS IS OF BULK AT MOST 1048576: true; the input reads as it did. -/
def fnPinUptoRow : OpenClaim := { program := "ytklphfmjdgnpnaadoor", sum := "849cedac63dab1a005427e61ad844b38f4fe4d77514cbf54bb4ed5a01db8ff3d", func := "loop.example/exopager/laws.FnPin", spec := "fnPin", inPlace := ["internal/bytealg.IndexByteString", "internal/bytealg.IndexString"], unfollowed := true, recurses := true, named := ["unicode/utf8.first", "unicode/utf8.acceptRanges", "internal/bytealg.MaxLen"], apart := false, laid := [("unicode/utf8.acceptRanges", laid_unicode_utf8_acceptRanges), ("unicode/utf8.first", laid_unicode_utf8_first)], narrowed := true }
def FnPinUptoSaid : Prop := fnPinUptoRow.holds Tryd.pinned (OpenSpec.upto fnPinSpec)

/-- 'laws.FnExactTablePin', WHERE WHAT IT READS IS OF BULK AT MOST 1048576: true; the input reads as it did. -/
def fnExactTablePinUptoRow : OpenClaim := { program := "ytklphfmjdgnpnaadoor", sum := "849cedac63dab1a005427e61ad844b38f4fe4d77514cbf54bb4ed5a01db8ff3d", func := "loop.example/exopager/laws.FnExactTablePin", spec := "fnExactTablePin", inPlace := ["internal/bytealg.IndexByteString", "internal/bytealg.IndexString"], unfollowed := true, recurses := true, named := ["unicode/utf8.first", "unicode/utf8.acceptRanges", "internal/bytealg.MaxLen"], apart := false, laid := [("unicode/utf8.acceptRanges", laid_unicode_utf8_acceptRanges), ("unicode/utf8.first", laid_unicode_utf8_first)], narrowed := true }
def FnExactTablePinUptoSaid : Prop := fnExactTablePinUptoRow.holds Tryd.pinned (OpenSpec.upto fnExactTablePinSpec)

end Rows
end Go.Proofs.YtklphfmjdgnpnaaDoor
