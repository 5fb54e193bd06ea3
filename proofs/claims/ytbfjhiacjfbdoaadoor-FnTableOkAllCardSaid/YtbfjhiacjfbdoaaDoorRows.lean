/-
  NARROWER THAN 'FOR EVERY INPUT', by the rows' own cells (each row's printed sentence says how): FnTableCount: laid · FnExactTableCount: laid · FnExactTableOk: laid · FnExactTableUnpin: laid · FnTableOkAll: laid · FnTableOk: laid · FnTableEmpty: laid · FnUnpin: laid.
  DERIVED. THE GIVEN ROWS OF THIS SEAT. 8 by the template 'for every input the law returns true; each argument reads behind the call as it read before'; 0 by the template 'total and deterministic' (their statements: YtbfjhiacjfbdoaaDoorTotals.lean).
  GIVEN WITH THE SEED: the statements are not yours to turn. If you find one false, say at which input.
  Laid BY PROGRAM, IN A SANDBOX (cutbox-rows.mjs): the forced cells as the released guide's own fill.sh prints them over the translation 5bc290bb9233e09b… (all of the seat's roots in one cut). By AI agents, Wed Nov 11 2026. No macro, syntax, notation, axiom, sorry.
-/
import Derived.Test.YtbfjhiacjfbdoaaDoorChecked
import GoSem.PinnedTables
import GoSem.Claim
import GoSem.ClaimJoined
import GoSem.ClaimMapViews
import Derived.JoinedTies
import Derived.KernelRfl
namespace Go.Proofs.YtbfjhiacjfbdoaaDoor
/- THE CELL 'sum', in the pinned program and in every row, IS THE sha256 OF THE DUMP (.gsa) THAT YtbfjhiacjfbdoaaDoorProg.lean LOADS. Nothing in Lean hashes anything: it is a label: what it is worth is what the hold of that sum in a sandbox is worth. -/
noncomputable def Tryd.pinned : Pinned := { name := "ytbfjhiacjfbdoaadoor", sum := "5bc290bb9233e09b21ff031fd7136f17fffc021ff6abd06d55f304e1331f0792", checked := Tryd.checked }
namespace Rows
def none {H : Type} : Left H := { results := [], args := [] }

/- WHAT THE LISTED PACKAGE-LEVEL VARIABLES READ AS WHEN THE CALL BEGINS. Each datum BY PROGRAM (the guide's laid-datum.mjs) off the statement by which the dump's own 'gosem.cut.vars' lays the variable. In a bare row this is a premise. The card (YtbfjhiacjfbdoaaDoorCards.lean) ties it to the program's text. -/
def laid_unicode_utf8_acceptRanges {H : Type} : DataW H := .agg [.agg [.lit (.int .u8 128), .lit (.int .u8 191)], .agg [.lit (.int .u8 160), .lit (.int .u8 191)], .agg [.lit (.int .u8 128), .lit (.int .u8 159)], .agg [.lit (.int .u8 144), .lit (.int .u8 191)], .agg [.lit (.int .u8 128), .lit (.int .u8 143)], .agg [.lit (.int .u8 0), .lit (.int .u8 0)], .agg [.lit (.int .u8 0), .lit (.int .u8 0)], .agg [.lit (.int .u8 0), .lit (.int .u8 0)], .agg [.lit (.int .u8 0), .lit (.int .u8 0)], .agg [.lit (.int .u8 0), .lit (.int .u8 0)], .agg [.lit (.int .u8 0), .lit (.int .u8 0)], .agg [.lit (.int .u8 0), .lit (.int .u8 0)], .agg [.lit (.int .u8 0), .lit (.int .u8 0)], .agg [.lit (.int .u8 0), .lit (.int .u8 0)], .agg [.lit (.int .u8 0), .lit (.int .u8 0)], .agg [.lit (.int .u8 0), .lit (.int .u8 0)]]
/-- One of Go's own tables, pinned by name: the form's constant. -/
def laid_unicode_utf8_first : DataW Unit := Go.Pinned.utf8First

/-- 'laws.FnTableCount': WHATEVER THE INPUT: true; the input reads as it did. -/
def fnTableCountSpec : ChangeSpec := { name := "fnTableCount", fn := fun _ => fun
  | [d] => { results := [.lit (.bool true)], args := [d] }
  | _ => none }
def fnTableCountRow : OpenClaim := { program := "ytbfjhiacjfbdoaadoor", sum := "5bc290bb9233e09b21ff031fd7136f17fffc021ff6abd06d55f304e1331f0792", func := "loop.example/exopager/laws.FnTableCount", spec := "fnTableCount", inPlace := ["internal/bytealg.IndexByteString", "internal/bytealg.IndexString"], unfollowed := true, recurses := true, named := ["unicode/utf8.first", "unicode/utf8.acceptRanges", "internal/bytealg.MaxLen"], apart := false, laid := [("unicode/utf8.acceptRanges", laid_unicode_utf8_acceptRanges), ("unicode/utf8.first", laid_unicode_utf8_first)] }
def FnTableCountSaid : Prop := fnTableCountRow.holds Tryd.pinned (OpenSpec.ofChange fnTableCountSpec)

/-- ITS FALSE NEIGHBOUR: 'it returns false'. Refute it at one input. -/
def fnTableCountWrong : ChangeSpec := { name := "fnTableCount", fn := fun _ => fun
  | [d] => { results := [.lit (.bool false)], args := [d] }
  | _ => none }
def FnTableCountWrongFalsely : Prop := fnTableCountRow.holds Tryd.pinned (OpenSpec.ofChange fnTableCountWrong)

/-- 'laws.FnExactTableCount': WHATEVER THE INPUT: true; the input reads as it did. -/
def fnExactTableCountSpec : ChangeSpec := { name := "fnExactTableCount", fn := fun _ => fun
  | [d1, d2] => { results := [.lit (.bool true)], args := [d1, d2] }
  | _ => none }
def fnExactTableCountRow : OpenClaim := { program := "ytbfjhiacjfbdoaadoor", sum := "5bc290bb9233e09b21ff031fd7136f17fffc021ff6abd06d55f304e1331f0792", func := "loop.example/exopager/laws.FnExactTableCount", spec := "fnExactTableCount", inPlace := ["internal/bytealg.IndexByteString", "internal/bytealg.IndexString"], unfollowed := true, recurses := true, named := ["unicode/utf8.first", "unicode/utf8.acceptRanges", "internal/bytealg.MaxLen"], apart := false, laid := [("unicode/utf8.acceptRanges", laid_unicode_utf8_acceptRanges), ("unicode/utf8.first", laid_unicode_utf8_first)] }
def FnExactTableCountSaid : Prop := fnExactTableCountRow.holds Tryd.pinned (OpenSpec.ofChange fnExactTableCountSpec)

/-- ITS FALSE NEIGHBOUR: 'it returns false'. Refute it at one input. -/
def fnExactTableCountWrong : ChangeSpec := { name := "fnExactTableCount", fn := fun _ => fun
  | [d1, d2] => { results := [.lit (.bool false)], args := [d1, d2] }
  | _ => none }
def FnExactTableCountWrongFalsely : Prop := fnExactTableCountRow.holds Tryd.pinned (OpenSpec.ofChange fnExactTableCountWrong)

/-- 'laws.FnExactTableOk': WHATEVER THE INPUT: true; the input reads as it did. -/
def fnExactTableOkSpec : ChangeSpec := { name := "fnExactTableOk", fn := fun _ => fun
  | [d1, d2, d3, d4, d5] => { results := [.lit (.bool true)], args := [d1, d2, d3, d4, d5] }
  | _ => none }
def fnExactTableOkRow : OpenClaim := { program := "ytbfjhiacjfbdoaadoor", sum := "5bc290bb9233e09b21ff031fd7136f17fffc021ff6abd06d55f304e1331f0792", func := "loop.example/exopager/laws.FnExactTableOk", spec := "fnExactTableOk", inPlace := ["internal/bytealg.IndexByteString", "internal/bytealg.IndexString"], unfollowed := true, recurses := true, named := ["unicode/utf8.first", "unicode/utf8.acceptRanges", "internal/bytealg.MaxLen"], apart := false, laid := [("unicode/utf8.acceptRanges", laid_unicode_utf8_acceptRanges), ("unicode/utf8.first", laid_unicode_utf8_first)] }
def FnExactTableOkSaid : Prop := fnExactTableOkRow.holds Tryd.pinned (OpenSpec.ofChange fnExactTableOkSpec)

/-- ITS FALSE NEIGHBOUR: 'it returns false'. Refute it at one input. -/
def fnExactTableOkWrong : ChangeSpec := { name := "fnExactTableOk", fn := fun _ => fun
  | [d1, d2, d3, d4, d5] => { results := [.lit (.bool false)], args := [d1, d2, d3, d4, d5] }
  | _ => none }
def FnExactTableOkWrongFalsely : Prop := fnExactTableOkRow.holds Tryd.pinned (OpenSpec.ofChange fnExactTableOkWrong)

/-- 'laws.FnExactTableUnpin': WHATEVER THE INPUT: true; the input reads as it did. -/
def fnExactTableUnpinSpec : ChangeSpec := { name := "fnExactTableUnpin", fn := fun _ => fun
  | [d1, d2, d3] => { results := [.lit (.bool true)], args := [d1, d2, d3] }
  | _ => none }
def fnExactTableUnpinRow : OpenClaim := { program := "ytbfjhiacjfbdoaadoor", sum := "5bc290bb9233e09b21ff031fd7136f17fffc021ff6abd06d55f304e1331f0792", func := "loop.example/exopager/laws.FnExactTableUnpin", spec := "fnExactTableUnpin", inPlace := ["internal/bytealg.IndexByteString", "internal/bytealg.IndexString"], unfollowed := true, recurses := true, named := ["unicode/utf8.first", "unicode/utf8.acceptRanges", "internal/bytealg.MaxLen"], apart := false, laid := [("unicode/utf8.acceptRanges", laid_unicode_utf8_acceptRanges), ("unicode/utf8.first", laid_unicode_utf8_first)] }
def FnExactTableUnpinSaid : Prop := fnExactTableUnpinRow.holds Tryd.pinned (OpenSpec.ofChange fnExactTableUnpinSpec)

/-- ITS FALSE NEIGHBOUR: 'it returns false'. Refute it at one input. -/
def fnExactTableUnpinWrong : ChangeSpec := { name := "fnExactTableUnpin", fn := fun _ => fun
  | [d1, d2, d3] => { results := [.lit (.bool false)], args := [d1, d2, d3] }
  | _ => none }
def FnExactTableUnpinWrongFalsely : Prop := fnExactTableUnpinRow.holds Tryd.pinned (OpenSpec.ofChange fnExactTableUnpinWrong)

/-- 'laws.FnTableOkAll': WHATEVER THE INPUT: true; the input reads as it did. -/
def fnTableOkAllSpec : ChangeSpec := { name := "fnTableOkAll", fn := fun _ => fun
  | [d] => { results := [.lit (.bool true)], args := [d] }
  | _ => none }
def fnTableOkAllRow : OpenClaim := { program := "ytbfjhiacjfbdoaadoor", sum := "5bc290bb9233e09b21ff031fd7136f17fffc021ff6abd06d55f304e1331f0792", func := "loop.example/exopager/laws.FnTableOkAll", spec := "fnTableOkAll", inPlace := ["internal/bytealg.IndexByteString", "internal/bytealg.IndexString"], unfollowed := true, recurses := true, named := ["unicode/utf8.first", "unicode/utf8.acceptRanges", "internal/bytealg.MaxLen"], apart := false, laid := [("unicode/utf8.acceptRanges", laid_unicode_utf8_acceptRanges), ("unicode/utf8.first", laid_unicode_utf8_first)] }
def FnTableOkAllSaid : Prop := fnTableOkAllRow.holds Tryd.pinned (OpenSpec.ofChange fnTableOkAllSpec)

/-- ITS FALSE NEIGHBOUR: 'it returns false'. Refute it at one input. -/
def fnTableOkAllWrong : ChangeSpec := { name := "fnTableOkAll", fn := fun _ => fun
  | [d] => { results := [.lit (.bool false)], args := [d] }
  | _ => none }
def FnTableOkAllWrongFalsely : Prop := fnTableOkAllRow.holds Tryd.pinned (OpenSpec.ofChange fnTableOkAllWrong)

/-- 'laws.FnTableOk': WHATEVER THE INPUT: true; the input reads as it did. -/
def fnTableOkSpec : ChangeSpec := { name := "fnTableOk", fn := fun _ => fun
  | [d] => { results := [.lit (.bool true)], args := [d] }
  | _ => none }
def fnTableOkRow : OpenClaim := { program := "ytbfjhiacjfbdoaadoor", sum := "5bc290bb9233e09b21ff031fd7136f17fffc021ff6abd06d55f304e1331f0792", func := "loop.example/exopager/laws.FnTableOk", spec := "fnTableOk", inPlace := ["internal/bytealg.IndexByteString", "internal/bytealg.IndexString"], unfollowed := true, recurses := true, named := ["unicode/utf8.first", "unicode/utf8.acceptRanges", "internal/bytealg.MaxLen"], apart := false, laid := [("unicode/utf8.acceptRanges", laid_unicode_utf8_acceptRanges), ("unicode/utf8.first", laid_unicode_utf8_first)] }
def FnTableOkSaid : Prop := fnTableOkRow.holds Tryd.pinned (OpenSpec.ofChange fnTableOkSpec)

/-- ITS FALSE NEIGHBOUR: 'it returns false'. Refute it at one input. -/
def fnTableOkWrong : ChangeSpec := { name := "fnTableOk", fn := fun _ => fun
  | [d] => { results := [.lit (.bool false)], args := [d] }
  | _ => none }
def FnTableOkWrongFalsely : Prop := fnTableOkRow.holds Tryd.pinned (OpenSpec.ofChange fnTableOkWrong)

/-- 'laws.FnTableEmpty': WHATEVER THE INPUT: true; the input reads as it did. -/
def fnTableEmptySpec : ChangeSpec := { name := "fnTableEmpty", fn := fun _ => fun
  | [d] => { results := [.lit (.bool true)], args := [d] }
  | _ => none }
def fnTableEmptyRow : OpenClaim := { program := "ytbfjhiacjfbdoaadoor", sum := "5bc290bb9233e09b21ff031fd7136f17fffc021ff6abd06d55f304e1331f0792", func := "loop.example/exopager/laws.FnTableEmpty", spec := "fnTableEmpty", inPlace := ["internal/bytealg.IndexByteString", "internal/bytealg.IndexString"], unfollowed := true, recurses := true, named := ["unicode/utf8.first", "unicode/utf8.acceptRanges", "internal/bytealg.MaxLen"], apart := false, laid := [("unicode/utf8.acceptRanges", laid_unicode_utf8_acceptRanges), ("unicode/utf8.first", laid_unicode_utf8_first)] }
def FnTableEmptySaid : Prop := fnTableEmptyRow.holds Tryd.pinned (OpenSpec.ofChange fnTableEmptySpec)

/-- ITS FALSE NEIGHBOUR: 'it returns false'. Refute it at one input. -/
def fnTableEmptyWrong : ChangeSpec := { name := "fnTableEmpty", fn := fun _ => fun
  | [d] => { results := [.lit (.bool false)], args := [d] }
  | _ => none }
def FnTableEmptyWrongFalsely : Prop := fnTableEmptyRow.holds Tryd.pinned (OpenSpec.ofChange fnTableEmptyWrong)

/-- 'laws.FnUnpin': WHATEVER THE INPUT: true; the input reads as it did. -/
def fnUnpinSpec : ChangeSpec := { name := "fnUnpin", fn := fun _ => fun
  | [d] => { results := [.lit (.bool true)], args := [d] }
  | _ => none }
def fnUnpinRow : OpenClaim := { program := "ytbfjhiacjfbdoaadoor", sum := "5bc290bb9233e09b21ff031fd7136f17fffc021ff6abd06d55f304e1331f0792", func := "loop.example/exopager/laws.FnUnpin", spec := "fnUnpin", inPlace := ["internal/bytealg.IndexByteString", "internal/bytealg.IndexString"], unfollowed := true, recurses := true, named := ["unicode/utf8.first", "unicode/utf8.acceptRanges", "internal/bytealg.MaxLen"], apart := false, laid := [("unicode/utf8.acceptRanges", laid_unicode_utf8_acceptRanges), ("unicode/utf8.first", laid_unicode_utf8_first)] }
def FnUnpinSaid : Prop := fnUnpinRow.holds Tryd.pinned (OpenSpec.ofChange fnUnpinSpec)

/-- ITS FALSE NEIGHBOUR: 'it returns false'. Refute it at one input. -/
def fnUnpinWrong : ChangeSpec := { name := "fnUnpin", fn := fun _ => fun
  | [d] => { results := [.lit (.bool false)], args := [d] }
  | _ => none }
def FnUnpinWrongFalsely : Prop := fnUnpinRow.holds Tryd.pinned (OpenSpec.ofChange fnUnpinWrong)

/- THE SECOND FORM. 'bulk': how many values and letters a reading holds, each counted each time it is reached (what is shared counts as often as it is met; a slice's spare places count too). A statement '..UptoSaid' is the law's where the arguments, and the package variables that the reading takes, are together of bulk at most 1048576: NARROWER than '..Said'. Prove '..Said' where nothing that the law and all that it calls make is longer than what came in: it says more and counts as full. Else prove '..UptoSaid'. A law counts once. -/
mutual
def uptoBulk {H : Type} : DataW H → Nat
  | .lit (.string bytes) => bytes.length + 1
  | .lit _ => 1
  | .nil => 1
  | .ptr d => uptoBulk d + 1
  | .slice elems spare => uptoBulkAll elems + uptoBulkAll spare + 1
  | .agg parts => uptoBulkAll parts + 1
  | .iface _ d => uptoBulk d + 1
  | .map entries => uptoBulkEntries entries + 1
  | .held _ => 1
def uptoBulkAll {H : Type} : List (DataW H) → Nat
  | [] => 0
  | d :: r => uptoBulk d + uptoBulkAll r
def uptoBulkEntries {H : Type} : List (Lit × DataW H) → Nat
  | [] => 0
  | x :: r => uptoBulkEntry x + uptoBulkEntries r
def uptoBulkEntry {H : Type} : Lit × DataW H → Nat
  | (.string bytes, d) => bytes.length + uptoBulk d + 1
  | (_, d) => uptoBulk d + 1
 end
def uptoSmall : (H : Type) → List (DataW H) → Bool := fun _ ds => decide (uptoBulkAll ds ≤ 1048576)
def OpenSpec.upto (s : _root_.Go.ChangeSpec) : _root_.Go.OpenSpec := { _root_.Go.OpenSpec.ofChange s with cond := some uptoSmall }

/-- 'laws.FnTableCount', WHERE WHAT IT READS IS OF BULK AT MOST 1048576: true; the input reads as it did. -/
def fnTableCountUptoRow : OpenClaim := { program := "ytbfjhiacjfbdoaadoor", sum := "5bc290bb9233e09b21ff031fd7136f17fffc021ff6abd06d55f304e1331f0792", func := "loop.example/exopager/laws.FnTableCount", spec := "fnTableCount", inPlace := ["internal/bytealg.IndexByteString", "internal/bytealg.IndexString"], unfollowed := true, recurses := true, named := ["unicode/utf8.first", "unicode/utf8.acceptRanges", "internal/bytealg.MaxLen"], apart := false, laid := [("unicode/utf8.acceptRanges", laid_unicode_utf8_acceptRanges), ("unicode/utf8.first", laid_unicode_utf8_first)], narrowed := true }
def FnTableCountUptoSaid : Prop := fnTableCountUptoRow.holds Tryd.pinned (OpenSpec.upto fnTableCountSpec)

/-- 'laws.FnExactTableCount', WHERE WHAT IT READS IS OF BULK AT MOST 1048576: true; the input reads as it did. -/
def fnExactTableCountUptoRow : OpenClaim := { program := "ytbfjhiacjfbdoaadoor", sum := "5bc290bb9233e09b21ff031fd7136f17fffc021ff6abd06d55f304e1331f0792", func := "loop.example/exopager/laws.FnExactTableCount", spec := "fnExactTableCount", inPlace := ["internal/bytealg.IndexByteString", "internal/bytealg.IndexString"], unfollowed := true, recurses := true, named := ["unicode/utf8.first", "unicode/utf8.acceptRanges", "internal/bytealg.MaxLen"], apart := false, laid := [("unicode/utf8.acceptRanges", laid_unicode_utf8_acceptRanges), ("unicode/utf8.first", laid_unicode_utf8_first)], narrowed := true }
def FnExactTableCountUptoSaid : Prop := fnExactTableCountUptoRow.holds Tryd.pinned (OpenSpec.upto fnExactTableCountSpec)

/-- 'laws.FnExactTableOk', WHERE WHAT IT READS IS OF BULK AT MOST 1048576: true; the input reads as it did. -/
def fnExactTableOkUptoRow : OpenClaim := { program := "ytbfjhiacjfbdoaadoor", sum := "5bc290bb9233e09b21ff031fd7136f17fffc021ff6abd06d55f304e1331f0792", func := "loop.example/exopager/laws.FnExactTableOk", spec := "fnExactTableOk", inPlace := ["internal/bytealg.IndexByteString", "internal/bytealg.IndexString"], unfollowed := true, recurses := true, named := ["unicode/utf8.first", "unicode/utf8.acceptRanges", "internal/bytealg.MaxLen"], apart := false, laid := [("unicode/utf8.acceptRanges", laid_unicode_utf8_acceptRanges), ("unicode/utf8.first", laid_unicode_utf8_first)], narrowed := true }
def FnExactTableOkUptoSaid : Prop := fnExactTableOkUptoRow.holds Tryd.pinned (OpenSpec.upto fnExactTableOkSpec)

/-- 'laws.FnExactTableUnpin', WHERE WHAT IT READS IS OF BULK AT MOST 1048576: true; the input reads as it did. -/
def fnExactTableUnpinUptoRow : OpenClaim := { program := "ytbfjhiacjfbdoaadoor", sum := "5bc290bb9233e09b21ff031fd7136f17fffc021ff6abd06d55f304e1331f0792", func := "loop.example/exopager/laws.FnExactTableUnpin", spec := "fnExactTableUnpin", inPlace := ["internal/bytealg.IndexByteString", "internal/bytealg.IndexString"], unfollowed := true, recurses := true, named := ["unicode/utf8.first", "unicode/utf8.acceptRanges", "internal/bytealg.MaxLen"], apart := false, laid := [("unicode/utf8.acceptRanges", laid_unicode_utf8_acceptRanges), ("unicode/utf8.first", laid_unicode_utf8_first)], narrowed := true }
def FnExactTableUnpinUptoSaid : Prop := fnExactTableUnpinUptoRow.holds Tryd.pinned (OpenSpec.upto fnExactTableUnpinSpec)

/-- 'laws.FnTableOkAll', WHERE WHAT IT READS IS OF BULK AT MOST 1048576: true; the input reads as it did. -/
def fnTableOkAllUptoRow : OpenClaim := { program := "ytbfjhiacjfbdoaadoor", sum := "5bc290bb9233e09b21ff031fd7136f17fffc021ff6abd06d55f304e1331f0792", func := "loop.example/exopager/laws.FnTableOkAll", spec := "fnTableOkAll", inPlace := ["internal/bytealg.IndexByteString", "internal/bytealg.IndexString"], unfollowed := true, recurses := true, named := ["unicode/utf8.first", "unicode/utf8.acceptRanges", "internal/bytealg.MaxLen"], apart := false, laid := [("unicode/utf8.acceptRanges", laid_unicode_utf8_acceptRanges), ("unicode/utf8.first", laid_unicode_utf8_first)], narrowed := true }
def FnTableOkAllUptoSaid : Prop := fnTableOkAllUptoRow.holds Tryd.pinned (OpenSpec.upto fnTableOkAllSpec)

/-- 'laws.FnTableOk', WHERE WHAT IT READS IS OF BULK AT MOST 1048576: true; the input reads as it did. -/
def fnTableOkUptoRow : OpenClaim := { program := "ytbfjhiacjfbdoaadoor", sum := "5bc290bb9233e09b21ff031fd7136f17fffc021ff6abd06d55f304e1331f0792", func := "loop.example/exopager/laws.FnTableOk", spec := "fnTableOk", inPlace := ["internal/bytealg.IndexByteString", "internal/bytealg.IndexString"], unfollowed := true, recurses := true, named := ["unicode/utf8.first", "unicode/utf8.acceptRanges", "internal/bytealg.MaxLen"], apart := false, laid := [("unicode/utf8.acceptRanges", laid_unicode_utf8_acceptRanges), ("unicode/utf8.first", laid_unicode_utf8_first)], narrowed := true }
def FnTableOkUptoSaid : Prop := fnTableOkUptoRow.holds Tryd.pinned (OpenSpec.upto fnTableOkSpec)

/-- 'laws.FnTableEmpty', WHERE WHAT IT READS IS OF BULK AT MOST 1048576: true; the input reads as it did. -/
def fnTableEmptyUptoRow : OpenClaim := { program := "ytbfjhiacjfbdoaadoor", sum := "5bc290bb9233e09b21ff031fd7136f17fffc021ff6abd06d55f304e1331f0792", func := "loop.example/exopager/laws.FnTableEmpty", spec := "fnTableEmpty", inPlace := ["internal/bytealg.IndexByteString", "internal/bytealg.IndexString"], unfollowed := true, recurses := true, named := ["unicode/utf8.first", "unicode/utf8.acceptRanges", "internal/bytealg.MaxLen"], apart := false, laid := [("unicode/utf8.acceptRanges", laid_unicode_utf8_acceptRanges), ("unicode/utf8.first", laid_unicode_utf8_first)], narrowed := true }
def FnTableEmptyUptoSaid : Prop := fnTableEmptyUptoRow.holds Tryd.pinned (OpenSpec.upto fnTableEmptySpec)

/-- 'laws.FnUnpin', WHERE WHAT IT READS IS OF BULK AT MOST 1048576: true; the input reads as it did. -/
def fnUnpinUptoRow : OpenClaim := { program := "ytbfjhiacjfbdoaadoor", sum := "5bc290bb9233e09b21ff031fd7136f17fffc021ff6abd06d55f304e1331f0792", func := "loop.example/exopager/laws.FnUnpin", spec := "fnUnpin", inPlace := ["internal/bytealg.IndexByteString", "internal/bytealg.IndexString"], unfollowed := true, recurses := true, named := ["unicode/utf8.first", "unicode/utf8.acceptRanges", "internal/bytealg.MaxLen"], apart := false, laid := [("unicode/utf8.acceptRanges", laid_unicode_utf8_acceptRanges), ("unicode/utf8.first", laid_unicode_utf8_first)], narrowed := true }
def FnUnpinUptoSaid : Prop := fnUnpinUptoRow.holds Tryd.pinned (OpenSpec.upto fnUnpinSpec)

end Rows
end Go.Proofs.YtbfjhiacjfbdoaaDoor
