/-
  NARROWER THAN 'FOR EVERY INPUT', by the rows' own cells (each row's printed sentence says how): FnInfosPart: laid · FnExactInfosValid: laid · FnInfosFree: laid · FnExactInfosFree: laid · FnInfosTakeGive: laid · FnInfosGive: laid · FnExactInfosGive: laid · FnInfosTake: laid · FnInfosTakeNone: laid · FnExactInfosTake: laid.
  DERIVED. THE GIVEN ROWS OF THIS SEAT. 10 by the template 'for every input the law returns true; each argument reads behind the call as it read before'; 0 by the template 'total and deterministic' (their statements: YtdeempkiffdlnaaDoorTotals.lean).
  GIVEN WITH THE SEED: the statements are not yours to turn. If you find one false, say at which input.
  Laid BY PROGRAM, IN A SANDBOX (cutbox-rows.mjs): the forced cells as the released guide's own fill.sh prints them over the translation 0d14e12b30c2f1ff… (all of the seat's roots in one cut). By AI agents, Wed Nov 11 2026. No macro, syntax, notation, axiom, sorry.
-/
import Derived.Test.YtdeempkiffdlnaaDoorChecked
import GoSem.PinnedTables
import GoSem.Claim
import GoSem.ClaimJoined
import GoSem.ClaimMapViews
import Derived.JoinedTies
import Derived.KernelRfl
namespace Go.Proofs.YtdeempkiffdlnaaDoor
/- THE CELL 'sum', in the pinned program and in every row, IS THE sha256 OF THE DUMP (.gsa) THAT YtdeempkiffdlnaaDoorProg.lean LOADS. Nothing in Lean hashes anything: it is a label: what it is worth is what the hold of that sum in a sandbox is worth. -/
noncomputable def Tryd.pinned : Pinned := { name := "ytdeempkiffdlnaadoor", sum := "0d14e12b30c2f1ffd430acf9602b66d0c779d359241a62ce962e3893d15c45a1", checked := Tryd.checked }
namespace Rows
def none {H : Type} : Left H := { results := [], args := [] }

/- WHAT THE LISTED PACKAGE-LEVEL VARIABLES READ AS WHEN THE CALL BEGINS. Each datum BY PROGRAM (the guide's laid-datum.mjs) off the statement by which the dump's own 'gosem.cut.vars' lays the variable. In a bare row this is a premise. The card (YtdeempkiffdlnaaDoorCards.lean) ties it to the program's text. -/
def laid_unicode_utf8_acceptRanges {H : Type} : DataW H := .agg [.agg [.lit (.int .u8 128), .lit (.int .u8 191)], .agg [.lit (.int .u8 160), .lit (.int .u8 191)], .agg [.lit (.int .u8 128), .lit (.int .u8 159)], .agg [.lit (.int .u8 144), .lit (.int .u8 191)], .agg [.lit (.int .u8 128), .lit (.int .u8 143)], .agg [.lit (.int .u8 0), .lit (.int .u8 0)], .agg [.lit (.int .u8 0), .lit (.int .u8 0)], .agg [.lit (.int .u8 0), .lit (.int .u8 0)], .agg [.lit (.int .u8 0), .lit (.int .u8 0)], .agg [.lit (.int .u8 0), .lit (.int .u8 0)], .agg [.lit (.int .u8 0), .lit (.int .u8 0)], .agg [.lit (.int .u8 0), .lit (.int .u8 0)], .agg [.lit (.int .u8 0), .lit (.int .u8 0)], .agg [.lit (.int .u8 0), .lit (.int .u8 0)], .agg [.lit (.int .u8 0), .lit (.int .u8 0)], .agg [.lit (.int .u8 0), .lit (.int .u8 0)]]
/-- One of Go's own tables, pinned by name: the form's constant. -/
def laid_unicode_utf8_first : DataW Unit := Go.Pinned.utf8First

/-- 'laws.FnInfosPart': WHATEVER THE INPUT: true; the input reads as it did. -/
def fnInfosPartSpec : ChangeSpec := { name := "fnInfosPart", fn := fun _ => fun
  | [d1, d2] => { results := [.lit (.bool true)], args := [d1, d2] }
  | _ => none }
def fnInfosPartRow : OpenClaim := { program := "ytdeempkiffdlnaadoor", sum := "0d14e12b30c2f1ffd430acf9602b66d0c779d359241a62ce962e3893d15c45a1", func := "loop.example/exopager/laws.FnInfosPart", spec := "fnInfosPart", inPlace := ["internal/bytealg.IndexByteString", "internal/bytealg.IndexString"], unfollowed := true, recurses := true, named := ["unicode/utf8.first", "unicode/utf8.acceptRanges", "internal/bytealg.MaxLen"], apart := false, laid := [("unicode/utf8.acceptRanges", laid_unicode_utf8_acceptRanges), ("unicode/utf8.first", laid_unicode_utf8_first)] }
def FnInfosPartSaid : Prop := fnInfosPartRow.holds Tryd.pinned (OpenSpec.ofChange fnInfosPartSpec)

/-- ITS FALSE NEIGHBOUR: 'it returns false'. Refute it at one input. -/
def fnInfosPartWrong : ChangeSpec := { name := "fnInfosPart", fn := fun _ => fun
  | [d1, d2] => { results := [.lit (.bool false)], args := [d1, d2] }
  | _ => none }
def FnInfosPartWrongFalsely : Prop := fnInfosPartRow.holds Tryd.pinned (OpenSpec.ofChange fnInfosPartWrong)

/-- 'laws.FnExactInfosValid': WHATEVER THE INPUT: true; the input reads as it did. -/
def fnExactInfosValidSpec : ChangeSpec := { name := "fnExactInfosValid", fn := fun _ => fun
  | [d] => { results := [.lit (.bool true)], args := [d] }
  | _ => none }
def fnExactInfosValidRow : OpenClaim := { program := "ytdeempkiffdlnaadoor", sum := "0d14e12b30c2f1ffd430acf9602b66d0c779d359241a62ce962e3893d15c45a1", func := "loop.example/exopager/laws.FnExactInfosValid", spec := "fnExactInfosValid", inPlace := ["internal/bytealg.IndexByteString", "internal/bytealg.IndexString"], unfollowed := true, recurses := true, named := ["unicode/utf8.first", "unicode/utf8.acceptRanges", "internal/bytealg.MaxLen"], apart := false, laid := [("unicode/utf8.acceptRanges", laid_unicode_utf8_acceptRanges), ("unicode/utf8.first", laid_unicode_utf8_first)] }
def FnExactInfosValidSaid : Prop := fnExactInfosValidRow.holds Tryd.pinned (OpenSpec.ofChange fnExactInfosValidSpec)

/-- ITS FALSE NEIGHBOUR: 'it returns false'. Refute it at one input. -/
def fnExactInfosValidWrong : ChangeSpec := { name := "fnExactInfosValid", fn := fun _ => fun
  | [d] => { results := [.lit (.bool false)], args := [d] }
  | _ => none }
def FnExactInfosValidWrongFalsely : Prop := fnExactInfosValidRow.holds Tryd.pinned (OpenSpec.ofChange fnExactInfosValidWrong)

/-- 'laws.FnInfosFree': WHATEVER THE INPUT: true; the input reads as it did. -/
def fnInfosFreeSpec : ChangeSpec := { name := "fnInfosFree", fn := fun _ => fun
  | [d] => { results := [.lit (.bool true)], args := [d] }
  | _ => none }
def fnInfosFreeRow : OpenClaim := { program := "ytdeempkiffdlnaadoor", sum := "0d14e12b30c2f1ffd430acf9602b66d0c779d359241a62ce962e3893d15c45a1", func := "loop.example/exopager/laws.FnInfosFree", spec := "fnInfosFree", inPlace := ["internal/bytealg.IndexByteString", "internal/bytealg.IndexString"], unfollowed := true, recurses := true, named := ["unicode/utf8.first", "unicode/utf8.acceptRanges", "internal/bytealg.MaxLen"], apart := false, laid := [("unicode/utf8.acceptRanges", laid_unicode_utf8_acceptRanges), ("unicode/utf8.first", laid_unicode_utf8_first)] }
def FnInfosFreeSaid : Prop := fnInfosFreeRow.holds Tryd.pinned (OpenSpec.ofChange fnInfosFreeSpec)

/-- ITS FALSE NEIGHBOUR: 'it returns false'. Refute it at one input. -/
def fnInfosFreeWrong : ChangeSpec := { name := "fnInfosFree", fn := fun _ => fun
  | [d] => { results := [.lit (.bool false)], args := [d] }
  | _ => none }
def FnInfosFreeWrongFalsely : Prop := fnInfosFreeRow.holds Tryd.pinned (OpenSpec.ofChange fnInfosFreeWrong)

/-- 'laws.FnExactInfosFree': WHATEVER THE INPUT: true; the input reads as it did. -/
def fnExactInfosFreeSpec : ChangeSpec := { name := "fnExactInfosFree", fn := fun _ => fun
  | [d] => { results := [.lit (.bool true)], args := [d] }
  | _ => none }
def fnExactInfosFreeRow : OpenClaim := { program := "ytdeempkiffdlnaadoor", sum := "0d14e12b30c2f1ffd430acf9602b66d0c779d359241a62ce962e3893d15c45a1", func := "loop.example/exopager/laws.FnExactInfosFree", spec := "fnExactInfosFree", inPlace := ["internal/bytealg.IndexByteString", "internal/bytealg.IndexString"], unfollowed := true, recurses := true, named := ["unicode/utf8.first", "unicode/utf8.acceptRanges", "internal/bytealg.MaxLen"], apart := false, laid := [("unicode/utf8.acceptRanges", laid_unicode_utf8_acceptRanges), ("unicode/utf8.first", laid_unicode_utf8_first)] }
def FnExactInfosFreeSaid : Prop := fnExactInfosFreeRow.holds Tryd.pinned (OpenSpec.ofChange fnExactInfosFreeSpec)

/-- ITS FALSE NEIGHBOUR: 'it returns false'. Refute it at one input. -/
def fnExactInfosFreeWrong : ChangeSpec := { name := "fnExactInfosFree", fn := fun _ => fun
  | [d] => { results := [.lit (.bool false)], args := [d] }
  | _ => none }
def FnExactInfosFreeWrongFalsely : Prop := fnExactInfosFreeRow.holds Tryd.pinned (OpenSpec.ofChange fnExactInfosFreeWrong)

/-- 'laws.FnInfosTakeGive': WHATEVER THE INPUT: true; the input reads as it did. -/
def fnInfosTakeGiveSpec : ChangeSpec := { name := "fnInfosTakeGive", fn := fun _ => fun
  | [d] => { results := [.lit (.bool true)], args := [d] }
  | _ => none }
def fnInfosTakeGiveRow : OpenClaim := { program := "ytdeempkiffdlnaadoor", sum := "0d14e12b30c2f1ffd430acf9602b66d0c779d359241a62ce962e3893d15c45a1", func := "loop.example/exopager/laws.FnInfosTakeGive", spec := "fnInfosTakeGive", inPlace := ["internal/bytealg.IndexByteString", "internal/bytealg.IndexString"], unfollowed := true, recurses := true, named := ["unicode/utf8.first", "unicode/utf8.acceptRanges", "internal/bytealg.MaxLen"], apart := false, laid := [("unicode/utf8.acceptRanges", laid_unicode_utf8_acceptRanges), ("unicode/utf8.first", laid_unicode_utf8_first)] }
def FnInfosTakeGiveSaid : Prop := fnInfosTakeGiveRow.holds Tryd.pinned (OpenSpec.ofChange fnInfosTakeGiveSpec)

/-- ITS FALSE NEIGHBOUR: 'it returns false'. Refute it at one input. -/
def fnInfosTakeGiveWrong : ChangeSpec := { name := "fnInfosTakeGive", fn := fun _ => fun
  | [d] => { results := [.lit (.bool false)], args := [d] }
  | _ => none }
def FnInfosTakeGiveWrongFalsely : Prop := fnInfosTakeGiveRow.holds Tryd.pinned (OpenSpec.ofChange fnInfosTakeGiveWrong)

/-- 'laws.FnInfosGive': WHATEVER THE INPUT: true; the input reads as it did. -/
def fnInfosGiveSpec : ChangeSpec := { name := "fnInfosGive", fn := fun _ => fun
  | [d] => { results := [.lit (.bool true)], args := [d] }
  | _ => none }
def fnInfosGiveRow : OpenClaim := { program := "ytdeempkiffdlnaadoor", sum := "0d14e12b30c2f1ffd430acf9602b66d0c779d359241a62ce962e3893d15c45a1", func := "loop.example/exopager/laws.FnInfosGive", spec := "fnInfosGive", inPlace := ["internal/bytealg.IndexByteString", "internal/bytealg.IndexString"], unfollowed := true, recurses := true, named := ["unicode/utf8.first", "unicode/utf8.acceptRanges", "internal/bytealg.MaxLen"], apart := false, laid := [("unicode/utf8.acceptRanges", laid_unicode_utf8_acceptRanges), ("unicode/utf8.first", laid_unicode_utf8_first)] }
def FnInfosGiveSaid : Prop := fnInfosGiveRow.holds Tryd.pinned (OpenSpec.ofChange fnInfosGiveSpec)

/-- ITS FALSE NEIGHBOUR: 'it returns false'. Refute it at one input. -/
def fnInfosGiveWrong : ChangeSpec := { name := "fnInfosGive", fn := fun _ => fun
  | [d] => { results := [.lit (.bool false)], args := [d] }
  | _ => none }
def FnInfosGiveWrongFalsely : Prop := fnInfosGiveRow.holds Tryd.pinned (OpenSpec.ofChange fnInfosGiveWrong)

/-- 'laws.FnExactInfosGive': WHATEVER THE INPUT: true; the input reads as it did. -/
def fnExactInfosGiveSpec : ChangeSpec := { name := "fnExactInfosGive", fn := fun _ => fun
  | [d1, d2] => { results := [.lit (.bool true)], args := [d1, d2] }
  | _ => none }
def fnExactInfosGiveRow : OpenClaim := { program := "ytdeempkiffdlnaadoor", sum := "0d14e12b30c2f1ffd430acf9602b66d0c779d359241a62ce962e3893d15c45a1", func := "loop.example/exopager/laws.FnExactInfosGive", spec := "fnExactInfosGive", inPlace := ["internal/bytealg.IndexByteString", "internal/bytealg.IndexString"], unfollowed := true, recurses := true, named := ["unicode/utf8.first", "unicode/utf8.acceptRanges", "internal/bytealg.MaxLen"], apart := false, laid := [("unicode/utf8.acceptRanges", laid_unicode_utf8_acceptRanges), ("unicode/utf8.first", laid_unicode_utf8_first)] }
def FnExactInfosGiveSaid : Prop := fnExactInfosGiveRow.holds Tryd.pinned (OpenSpec.ofChange fnExactInfosGiveSpec)

/-- ITS FALSE NEIGHBOUR: 'it returns false'. Refute it at one input. -/
def fnExactInfosGiveWrong : ChangeSpec := { name := "fnExactInfosGive", fn := fun _ => fun
  | [d1, d2] => { results := [.lit (.bool false)], args := [d1, d2] }
  | _ => none }
def FnExactInfosGiveWrongFalsely : Prop := fnExactInfosGiveRow.holds Tryd.pinned (OpenSpec.ofChange fnExactInfosGiveWrong)

/-- 'laws.FnInfosTake': WHATEVER THE INPUT: true; the input reads as it did. -/
def fnInfosTakeSpec : ChangeSpec := { name := "fnInfosTake", fn := fun _ => fun
  | [d] => { results := [.lit (.bool true)], args := [d] }
  | _ => none }
def fnInfosTakeRow : OpenClaim := { program := "ytdeempkiffdlnaadoor", sum := "0d14e12b30c2f1ffd430acf9602b66d0c779d359241a62ce962e3893d15c45a1", func := "loop.example/exopager/laws.FnInfosTake", spec := "fnInfosTake", inPlace := ["internal/bytealg.IndexByteString", "internal/bytealg.IndexString"], unfollowed := true, recurses := true, named := ["unicode/utf8.first", "unicode/utf8.acceptRanges", "internal/bytealg.MaxLen"], apart := false, laid := [("unicode/utf8.acceptRanges", laid_unicode_utf8_acceptRanges), ("unicode/utf8.first", laid_unicode_utf8_first)] }
def FnInfosTakeSaid : Prop := fnInfosTakeRow.holds Tryd.pinned (OpenSpec.ofChange fnInfosTakeSpec)

/-- ITS FALSE NEIGHBOUR: 'it returns false'. Refute it at one input. -/
def fnInfosTakeWrong : ChangeSpec := { name := "fnInfosTake", fn := fun _ => fun
  | [d] => { results := [.lit (.bool false)], args := [d] }
  | _ => none }
def FnInfosTakeWrongFalsely : Prop := fnInfosTakeRow.holds Tryd.pinned (OpenSpec.ofChange fnInfosTakeWrong)

/-- 'laws.FnInfosTakeNone': WHATEVER THE INPUT: true; the input reads as it did. -/
def fnInfosTakeNoneSpec : ChangeSpec := { name := "fnInfosTakeNone", fn := fun _ => fun
  | [d] => { results := [.lit (.bool true)], args := [d] }
  | _ => none }
def fnInfosTakeNoneRow : OpenClaim := { program := "ytdeempkiffdlnaadoor", sum := "0d14e12b30c2f1ffd430acf9602b66d0c779d359241a62ce962e3893d15c45a1", func := "loop.example/exopager/laws.FnInfosTakeNone", spec := "fnInfosTakeNone", inPlace := ["internal/bytealg.IndexByteString", "internal/bytealg.IndexString"], unfollowed := true, recurses := true, named := ["unicode/utf8.first", "unicode/utf8.acceptRanges", "internal/bytealg.MaxLen"], apart := false, laid := [("unicode/utf8.acceptRanges", laid_unicode_utf8_acceptRanges), ("unicode/utf8.first", laid_unicode_utf8_first)] }
def FnInfosTakeNoneSaid : Prop := fnInfosTakeNoneRow.holds Tryd.pinned (OpenSpec.ofChange fnInfosTakeNoneSpec)

/-- ITS FALSE NEIGHBOUR: 'it returns false'. Refute it at one input. -/
def fnInfosTakeNoneWrong : ChangeSpec := { name := "fnInfosTakeNone", fn := fun _ => fun
  | [d] => { results := [.lit (.bool false)], args := [d] }
  | _ => none }
def FnInfosTakeNoneWrongFalsely : Prop := fnInfosTakeNoneRow.holds Tryd.pinned (OpenSpec.ofChange fnInfosTakeNoneWrong)

/-- 'laws.FnExactInfosTake': WHATEVER THE INPUT: true; the input reads as it did. -/
def fnExactInfosTakeSpec : ChangeSpec := { name := "fnExactInfosTake", fn := fun _ => fun
  | [d1, d2] => { results := [.lit (.bool true)], args := [d1, d2] }
  | _ => none }
def fnExactInfosTakeRow : OpenClaim := { program := "ytdeempkiffdlnaadoor", sum := "0d14e12b30c2f1ffd430acf9602b66d0c779d359241a62ce962e3893d15c45a1", func := "loop.example/exopager/laws.FnExactInfosTake", spec := "fnExactInfosTake", inPlace := ["internal/bytealg.IndexByteString", "internal/bytealg.IndexString"], unfollowed := true, recurses := true, named := ["unicode/utf8.first", "unicode/utf8.acceptRanges", "internal/bytealg.MaxLen"], apart := false, laid := [("unicode/utf8.acceptRanges", laid_unicode_utf8_acceptRanges), ("unicode/utf8.first", laid_unicode_utf8_first)] }
def FnExactInfosTakeSaid : Prop := fnExactInfosTakeRow.holds Tryd.pinned (OpenSpec.ofChange fnExactInfosTakeSpec)

/-- ITS FALSE NEIGHBOUR: 'it returns false'. Refute it at one input. -/
def fnExactInfosTakeWrong : ChangeSpec := { name := "fnExactInfosTake", fn := fun _ => fun
  | [d1, d2] => { results := [.lit (.bool false)], args := [d1, d2] }
  | _ => none }
def FnExactInfosTakeWrongFalsely : Prop := fnExactInfosTakeRow.holds Tryd.pinned (OpenSpec.ofChange fnExactInfosTakeWrong)

/- THE SECOND FORM. 'bulk': how many values and letters a reading holds, each counted each time it is reached (what is shared counts as often as it is met; a slice's spare places count too). A statement '..UptoSaid' is the law's where the arguments, and the package variables that the reading takes, are together of bulk at most 1048576: NARROWER than '..Said'. Prove '..Said' where nothing that the law and all that it calls make is longer than what came in: it says more and counts as full. Else prove '..UptoSaid'. A law counts once. -/
mutual
def uptoBulk {H : Type} : DataW H → Nat
  | .lit (.string bytes) => bytes.length + 1
  | .lit _ => 1
  | .nil => 1
  | .ptr d => uptoBulk d + 1
  | .slice elems spare => uptoBulkAll elems + uptoBulkAll spare + 1
  | .agg parts => uptoBulkAll parts + 1
  | .iface _ d => uptoBulk d + 1
  | .map entries => uptoBulkEntries entries + 1
  | .held _ => 1
def uptoBulkAll {H : Type} : List (DataW H) → Nat
  | [] => 0
  | d :: r => uptoBulk d + uptoBulkAll r
def uptoBulkEntries {H : Type} : List (Lit × DataW H) → Nat
  | [] => 0
  | x :: r => uptoBulkEntry x + uptoBulkEntries r
def uptoBulkEntry {H : Type} : Lit × DataW H → Nat
  | (.string bytes, d) => bytes.length + uptoBulk d + 1
  | (_, d) => uptoBulk d + 1
 end
def uptoSmall : (H : Type) → List (DataW H) → Bool := fun _ ds => decide (uptoBulkAll ds ≤ 1048576)
def OpenSpec.upto (s : _root_.Go.ChangeSpec) : _root_.Go.OpenSpec := { _root_.Go.OpenSpec.ofChange s with cond := some uptoSmall }

/-- 'laws.FnInfosPart', WHERE WHAT IT READS IS OF BULK AT MOST 1048576: true; the input reads as it did. -/
def fnInfosPartUptoRow : OpenClaim := { program := "ytdeempkiffdlnaadoor", sum := "0d14e12b30c2f1ffd430acf9602b66d0c779d359241a62ce962e3893d15c45a1", func := "loop.example/exopager/laws.FnInfosPart", spec := "fnInfosPart", inPlace := ["internal/bytealg.IndexByteString", "internal/bytealg.IndexString"], unfollowed := true, recurses := true, named := ["unicode/utf8.first", "unicode/utf8.acceptRanges", "internal/bytealg.MaxLen"], apart := false, laid := [("unicode/utf8.acceptRanges", laid_unicode_utf8_acceptRanges), ("unicode/utf8.first", laid_unicode_utf8_first)], narrowed := true }
def FnInfosPartUptoSaid : Prop := fnInfosPartUptoRow.holds Tryd.pinned (OpenSpec.upto fnInfosPartSpec)

/-- 'laws.FnExactInfosValid', WHERE WHAT IT READS IS OF BULK AT MOST 1048576: true; the input reads as it did. -/
def fnExactInfosValidUptoRow : OpenClaim := { program := "ytdeempkiffdlnaadoor", sum := "0d14e12b30c2f1ffd430acf9602b66d0c779d359241a62ce962e3893d15c45a1", func := "loop.example/exopager/laws.FnExactInfosValid", spec := "fnExactInfosValid", inPlace := ["internal/bytealg.IndexByteString", "internal/bytealg.IndexString"], unfollowed := true, recurses := true, named := ["unicode/utf8.first", "unicode/utf8.acceptRanges", "internal/bytealg.MaxLen"], apart := false, laid := [("unicode/utf8.acceptRanges", laid_unicode_utf8_acceptRanges), ("unicode/utf8.first", laid_unicode_utf8_first)], narrowed := true }
def FnExactInfosValidUptoSaid : Prop := fnExactInfosValidUptoRow.holds Tryd.pinned (OpenSpec.upto fnExactInfosValidSpec)

/-- 'laws.FnInfosFree', WHERE WHAT IT READS IS OF BULK AT MOST 1048576: true; the input reads as it did. -/
def fnInfosFreeUptoRow : OpenClaim := { program := "ytdeempkiffdlnaadoor", sum := "0d14e12b30c2f1ffd430acf9602b66d0c779d359241a62ce962e3893d15c45a1", func := "loop.example/exopager/laws.FnInfosFree", spec := "fnInfosFree", inPlace := ["internal/bytealg.IndexByteString", "internal/bytealg.IndexString"], unfollowed := true, recurses := true, named := ["unicode/utf8.first", "unicode/utf8.acceptRanges", "internal/bytealg.MaxLen"], apart := false, laid := [("unicode/utf8.acceptRanges", laid_unicode_utf8_acceptRanges), ("unicode/utf8.first", laid_unicode_utf8_first)], narrowed := true }
def FnInfosFreeUptoSaid : Prop := fnInfosFreeUptoRow.holds Tryd.pinned (OpenSpec.upto fnInfosFreeSpec)

/-- 'laws.FnExactInfosFree', WHERE WHAT IT READS IS OF BULK AT MOST 1048576: true; the input reads as it did. -/
def fnExactInfosFreeUptoRow : OpenClaim := { program := "ytdeempkiffdlnaadoor", sum := "0d14e12b30c2f1ffd430acf9602b66d0c779d359241a62ce962e3893d15c45a1", func := "loop.example/exopager/laws.FnExactInfosFree", spec := "fnExactInfosFree", inPlace := ["internal/bytealg.IndexByteString", "internal/bytealg.IndexString"], unfollowed := true, recurses := true, named := ["unicode/utf8.first", "unicode/utf8.acceptRanges", "internal/bytealg.MaxLen"], apart := false, laid := [("unicode/utf8.acceptRanges", laid_unicode_utf8_acceptRanges), ("unicode/utf8.first", laid_unicode_utf8_first)], narrowed := true }
def FnExactInfosFreeUptoSaid : Prop := fnExactInfosFreeUptoRow.holds Tryd.pinned (OpenSpec.upto fnExactInfosFreeSpec)

/-- 'laws.FnInfosTakeGive', WHERE WHAT IT READS IS OF BULK AT MOST 1048576: true; the input reads as it did. -/
def fnInfosTakeGiveUptoRow : OpenClaim := { program := "ytdeempkiffdlnaadoor", sum := "0d14e12b30c2f1ffd430acf9602b66d0c779d359241a62ce962e3893d15c45a1", func := "loop.example/exopager/laws.FnInfosTakeGive", spec := "fnInfosTakeGive", inPlace := ["internal/bytealg.IndexByteString", "internal/bytealg.IndexString"], unfollowed := true, recurses := true, named := ["unicode/utf8.first", "unicode/utf8.acceptRanges", "internal/bytealg.MaxLen"], apart := false, laid := [("unicode/utf8.acceptRanges", laid_unicode_utf8_acceptRanges), ("unicode/utf8.first", laid_unicode_utf8_first)], narrowed := true }
def FnInfosTakeGiveUptoSaid : Prop := fnInfosTakeGiveUptoRow.holds Tryd.pinned (OpenSpec.upto fnInfosTakeGiveSpec)

/-- 'laws.FnInfosGive', WHERE WHAT IT READS IS OF BULK AT MOST 1048576: true; the input reads as it did. -/
def fnInfosGiveUptoRow : OpenClaim := { program := "ytdeempkiffdlnaadoor", sum := "0d14e12b30c2f1ffd430acf9602b66d0c779d359241a62ce962e3893d15c45a1", func := "loop.example/exopager/laws.FnInfosGive", spec := "fnInfosGive", inPlace := ["internal/bytealg.IndexByteString", "internal/bytealg.IndexString"], unfollowed := true, recurses := true, named := ["unicode/utf8.first", "unicode/utf8.acceptRanges", "internal/bytealg.MaxLen"], apart := false, laid := [("unicode/utf8.acceptRanges", laid_unicode_utf8_acceptRanges), ("unicode/utf8.first", laid_unicode_utf8_first)], narrowed := true }
def FnInfosGiveUptoSaid : Prop := fnInfosGiveUptoRow.holds Tryd.pinned (OpenSpec.upto fnInfosGiveSpec)

/-- 'laws.FnExactInfosGive', WHERE WHAT IT READS IS OF BULK AT MOST 1048576: true; the input reads as it did. -/
def fnExactInfosGiveUptoRow : OpenClaim := { program := "ytdeempkiffdlnaadoor", sum := "0d14e12b30c2f1ffd430acf9602b66d0c779d359241a62ce962e3893d15c45a1", func := "loop.example/exopager/laws.FnExactInfosGive", spec := "fnExactInfosGive", inPlace := ["internal/bytealg.IndexByteString", "internal/bytealg.IndexString"], unfollowed := true, recurses := true, named := ["unicode/utf8.first", "unicode/utf8.acceptRanges", "internal/bytealg.MaxLen"], apart := false, laid := [("unicode/utf8.acceptRanges", laid_unicode_utf8_acceptRanges), ("unicode/utf8.first", laid_unicode_utf8_first)], narrowed := true }
def FnExactInfosGiveUptoSaid : Prop := fnExactInfosGiveUptoRow.holds Tryd.pinned (OpenSpec.upto fnExactInfosGiveSpec)

/-- 'laws.FnInfosTake', WHERE WHAT IT READS IS OF BULK AT MOST 1048576: true; the input reads as it did. -/
def fnInfosTakeUptoRow : OpenClaim := { program := "ytdeempkiffdlnaadoor", sum := "0d14e12b30c2f1ffd430acf9602b66d0c779d359241a62ce962e3893d15c45a1", func := "loop.example/exopager/laws.FnInfosTake", spec := "fnInfosTake", inPlace := ["internal/bytealg.IndexByteString", "internal/bytealg.IndexString"], unfollowed := true, recurses := true, named := ["unicode/utf8.first", "unicode/utf8.acceptRanges", "internal/bytealg.MaxLen"], apart := false, laid := [("unicode/utf8.acceptRanges", laid_unicode_utf8_acceptRanges), ("unicode/utf8.first", laid_unicode_utf8_first)], narrowed := true }
def FnInfosTakeUptoSaid : Prop := fnInfosTakeUptoRow.holds Tryd.pinned (OpenSpec.upto fnInfosTakeSpec)

/-- 'laws.FnInfosTakeNone', WHERE WHAT IT READS IS OF BULK AT MOST 1048576: true; the input reads as it did. -/
def fnInfosTakeNoneUptoRow : OpenClaim := { program := "ytdeempkiffdlnaadoor", sum := "0d14e12b30c2f1ffd430acf9602b66d0c779d359241a62ce962e3893d15c45a1", func := "loop.example/exopager/laws.FnInfosTakeNone", spec := "fnInfosTakeNone", inPlace := ["internal/bytealg.IndexByteString", "internal/bytealg.IndexString"], unfollowed := true, recurses := true, named := ["unicode/utf8.first", "unicode/utf8.acceptRanges", "internal/bytealg.MaxLen"], apart := false, laid := [("unicode/utf8.acceptRanges", laid_unicode_utf8_acceptRanges), ("unicode/utf8.first", laid_unicode_utf8_first)], narrowed := true }
def FnInfosTakeNoneUptoSaid : Prop := fnInfosTakeNoneUptoRow.holds Tryd.pinned (OpenSpec.upto fnInfosTakeNoneSpec)

/-- 'laws.FnExactInfosTake', WHERE WHAT IT READS IS OF BULK AT MOST 1048576: true; the input reads as it did. -/
def fnExactInfosTakeUptoRow : OpenClaim := { program := "ytdeempkiffdlnaadoor", sum := "0d14e12b30c2f1ffd430acf9602b66d0c779d359241a62ce962e3893d15c45a1", func := "loop.example/exopager/laws.FnExactInfosTake", spec := "fnExactInfosTake", inPlace := ["internal/bytealg.IndexByteString", "internal/bytealg.IndexString"], unfollowed := true, recurses := true, named := ["unicode/utf8.first", "unicode/utf8.acceptRanges", "internal/bytealg.MaxLen"], apart := false, laid := [("unicode/utf8.acceptRanges", laid_unicode_utf8_acceptRanges), ("unicode/utf8.first", laid_unicode_utf8_first)], narrowed := true }
def FnExactInfosTakeUptoSaid : Prop := fnExactInfosTakeUptoRow.holds Tryd.pinned (OpenSpec.upto fnExactInfosTakeSpec)

end Rows
end Go.Proofs.YtdeempkiffdlnaaDoor
