/-
  No cell of these rows narrows 'for every input' (looked for: loops, veiled, ifaces, maps, wideKeys, modest, calm, conditions, laid).
  DERIVED. THE GIVEN ROWS OF THIS SEAT. 14 by the template 'for every input the law returns true; each argument reads behind the call as it read before'; 0 by the template 'total and deterministic' (their statements: YtkpdjnfgmgnjdaaTotals.lean).
  GIVEN WITH THE SEED: the statements are not yours to turn. If you find one false, say at which input.
  Laid BY PROGRAM, IN A SANDBOX (cutbox-rows.mjs): the forced cells as the released guide's own fill.sh prints them over the translation 6608ba1a6100dce1… (all of the seat's roots in one cut). By AI agents, Wed Nov 11 2026. No macro, syntax, notation, axiom, sorry.
-/
import Derived.Test.YtkpdjnfgmgnjdaaChecked
import GoSem.Claim
import GoSem.ClaimJoined
import GoSem.ClaimMapViews
import Derived.JoinedTies
import Derived.KernelRfl
namespace Go.Proofs.Ytkpdjnfgmgnjdaa
/- THE CELL 'sum', in the pinned program and in every row, IS THE sha256 OF THE DUMP (.gsa) THAT YtkpdjnfgmgnjdaaProg.lean LOADS. Nothing in Lean hashes anything: it is a label: what it is worth is what the hold of that sum in a sandbox is worth. -/
noncomputable def Try.pinned : Pinned := { name := "ytkpdjnfgmgnjdaa", sum := "6608ba1a6100dce1eb071233c9304245f8ae7c7f4a31b4dbd7be9fa038819f67", checked := Try.checked }
namespace Rows
def none {H : Type} : Left H := { results := [], args := [] }

/-- 'laws.FnExactTableNeeds': WHATEVER THE INPUT: true; the input reads as it did. -/
def fnExactTableNeedsSpec : ChangeSpec := { name := "fnExactTableNeeds", fn := fun _ => fun
  | [d] => { results := [.lit (.bool true)], args := [d] }
  | _ => none }
def fnExactTableNeedsRow : OpenClaim := { program := "ytkpdjnfgmgnjdaa", sum := "6608ba1a6100dce1eb071233c9304245f8ae7c7f4a31b4dbd7be9fa038819f67", func := "loop.example/exopager/laws.FnExactTableNeeds", spec := "fnExactTableNeeds", apart := false }
def FnExactTableNeedsSaid : Prop := fnExactTableNeedsRow.holds Try.pinned (OpenSpec.ofChange fnExactTableNeedsSpec)

/-- ITS FALSE NEIGHBOUR: 'it returns false'. Refute it at one input. -/
def fnExactTableNeedsWrong : ChangeSpec := { name := "fnExactTableNeeds", fn := fun _ => fun
  | [d] => { results := [.lit (.bool false)], args := [d] }
  | _ => none }
def FnExactTableNeedsWrongFalsely : Prop := fnExactTableNeedsRow.holds Try.pinned (OpenSpec.ofChange fnExactTableNeedsWrong)

/-- 'laws.FnTableNeeds': WHATEVER THE INPUT: true; the input reads as it did. -/
def fnTableNeedsSpec : ChangeSpec := { name := "fnTableNeeds", fn := fun _ => fun
  | [d] => { results := [.lit (.bool true)], args := [d] }
  | _ => none }
def fnTableNeedsRow : OpenClaim := { program := "ytkpdjnfgmgnjdaa", sum := "6608ba1a6100dce1eb071233c9304245f8ae7c7f4a31b4dbd7be9fa038819f67", func := "loop.example/exopager/laws.FnTableNeeds", spec := "fnTableNeeds", apart := false }
def FnTableNeedsSaid : Prop := fnTableNeedsRow.holds Try.pinned (OpenSpec.ofChange fnTableNeedsSpec)

/-- ITS FALSE NEIGHBOUR: 'it returns false'. Refute it at one input. -/
def fnTableNeedsWrong : ChangeSpec := { name := "fnTableNeeds", fn := fun _ => fun
  | [d] => { results := [.lit (.bool false)], args := [d] }
  | _ => none }
def FnTableNeedsWrongFalsely : Prop := fnTableNeedsRow.holds Try.pinned (OpenSpec.ofChange fnTableNeedsWrong)

/-- 'laws.FnMailPart': WHATEVER THE INPUT: true; the input reads as it did. -/
def fnMailPartSpec : ChangeSpec := { name := "fnMailPart", fn := fun _ => fun
  | [d1, d2] => { results := [.lit (.bool true)], args := [d1, d2] }
  | _ => none }
def fnMailPartRow : OpenClaim := { program := "ytkpdjnfgmgnjdaa", sum := "6608ba1a6100dce1eb071233c9304245f8ae7c7f4a31b4dbd7be9fa038819f67", func := "loop.example/exopager/laws.FnMailPart", spec := "fnMailPart", unfollowed := true, recurses := true, apart := false }
def FnMailPartSaid : Prop := fnMailPartRow.holds Try.pinned (OpenSpec.ofChange fnMailPartSpec)

/-- ITS FALSE NEIGHBOUR: 'it returns false'. Refute it at one input. -/
def fnMailPartWrong : ChangeSpec := { name := "fnMailPart", fn := fun _ => fun
  | [d1, d2] => { results := [.lit (.bool false)], args := [d1, d2] }
  | _ => none }
def FnMailPartWrongFalsely : Prop := fnMailPartRow.holds Try.pinned (OpenSpec.ofChange fnMailPartWrong)

/-- 'laws.FnExactMailsValid': WHATEVER THE INPUT: true; the input reads as it did. -/
def fnExactMailsValidSpec : ChangeSpec := { name := "fnExactMailsValid", fn := fun _ => fun
  | [d] => { results := [.lit (.bool true)], args := [d] }
  | _ => none }
def fnExactMailsValidRow : OpenClaim := { program := "ytkpdjnfgmgnjdaa", sum := "6608ba1a6100dce1eb071233c9304245f8ae7c7f4a31b4dbd7be9fa038819f67", func := "loop.example/exopager/laws.FnExactMailsValid", spec := "fnExactMailsValid", unfollowed := true, recurses := true, apart := false }
def FnExactMailsValidSaid : Prop := fnExactMailsValidRow.holds Try.pinned (OpenSpec.ofChange fnExactMailsValidSpec)

/-- ITS FALSE NEIGHBOUR: 'it returns false'. Refute it at one input. -/
def fnExactMailsValidWrong : ChangeSpec := { name := "fnExactMailsValid", fn := fun _ => fun
  | [d] => { results := [.lit (.bool false)], args := [d] }
  | _ => none }
def FnExactMailsValidWrongFalsely : Prop := fnExactMailsValidRow.holds Try.pinned (OpenSpec.ofChange fnExactMailsValidWrong)

/-- 'laws.FnMailWords': WHATEVER THE INPUT: true; the input reads as it did. -/
def fnMailWordsSpec : ChangeSpec := { name := "fnMailWords", fn := fun _ => fun
  | [d] => { results := [.lit (.bool true)], args := [d] }
  | _ => none }
def fnMailWordsRow : OpenClaim := { program := "ytkpdjnfgmgnjdaa", sum := "6608ba1a6100dce1eb071233c9304245f8ae7c7f4a31b4dbd7be9fa038819f67", func := "loop.example/exopager/laws.FnMailWords", spec := "fnMailWords", unfollowed := true, recurses := true, apart := false }
def FnMailWordsSaid : Prop := fnMailWordsRow.holds Try.pinned (OpenSpec.ofChange fnMailWordsSpec)

/-- ITS FALSE NEIGHBOUR: 'it returns false'. Refute it at one input. -/
def fnMailWordsWrong : ChangeSpec := { name := "fnMailWords", fn := fun _ => fun
  | [d] => { results := [.lit (.bool false)], args := [d] }
  | _ => none }
def FnMailWordsWrongFalsely : Prop := fnMailWordsRow.holds Try.pinned (OpenSpec.ofChange fnMailWordsWrong)

/-- 'laws.FnMailFull': WHATEVER THE INPUT: true; the input reads as it did. -/
def fnMailFullSpec : ChangeSpec := { name := "fnMailFull", fn := fun _ => fun
  | [d] => { results := [.lit (.bool true)], args := [d] }
  | _ => none }
def fnMailFullRow : OpenClaim := { program := "ytkpdjnfgmgnjdaa", sum := "6608ba1a6100dce1eb071233c9304245f8ae7c7f4a31b4dbd7be9fa038819f67", func := "loop.example/exopager/laws.FnMailFull", spec := "fnMailFull", unfollowed := true, recurses := true, apart := false }
def FnMailFullSaid : Prop := fnMailFullRow.holds Try.pinned (OpenSpec.ofChange fnMailFullSpec)

/-- ITS FALSE NEIGHBOUR: 'it returns false'. Refute it at one input. -/
def fnMailFullWrong : ChangeSpec := { name := "fnMailFull", fn := fun _ => fun
  | [d] => { results := [.lit (.bool false)], args := [d] }
  | _ => none }
def FnMailFullWrongFalsely : Prop := fnMailFullRow.holds Try.pinned (OpenSpec.ofChange fnMailFullWrong)

/-- 'laws.FnMailSend': WHATEVER THE INPUT: true; the input reads as it did. -/
def fnMailSendSpec : ChangeSpec := { name := "fnMailSend", fn := fun _ => fun
  | [d] => { results := [.lit (.bool true)], args := [d] }
  | _ => none }
def fnMailSendRow : OpenClaim := { program := "ytkpdjnfgmgnjdaa", sum := "6608ba1a6100dce1eb071233c9304245f8ae7c7f4a31b4dbd7be9fa038819f67", func := "loop.example/exopager/laws.FnMailSend", spec := "fnMailSend", unfollowed := true, recurses := true, apart := false }
def FnMailSendSaid : Prop := fnMailSendRow.holds Try.pinned (OpenSpec.ofChange fnMailSendSpec)

/-- ITS FALSE NEIGHBOUR: 'it returns false'. Refute it at one input. -/
def fnMailSendWrong : ChangeSpec := { name := "fnMailSend", fn := fun _ => fun
  | [d] => { results := [.lit (.bool false)], args := [d] }
  | _ => none }
def FnMailSendWrongFalsely : Prop := fnMailSendRow.holds Try.pinned (OpenSpec.ofChange fnMailSendWrong)

/-- 'laws.FnMailTake': WHATEVER THE INPUT: true; the input reads as it did. -/
def fnMailTakeSpec : ChangeSpec := { name := "fnMailTake", fn := fun _ => fun
  | [d] => { results := [.lit (.bool true)], args := [d] }
  | _ => none }
def fnMailTakeRow : OpenClaim := { program := "ytkpdjnfgmgnjdaa", sum := "6608ba1a6100dce1eb071233c9304245f8ae7c7f4a31b4dbd7be9fa038819f67", func := "loop.example/exopager/laws.FnMailTake", spec := "fnMailTake", unfollowed := true, recurses := true, apart := false }
def FnMailTakeSaid : Prop := fnMailTakeRow.holds Try.pinned (OpenSpec.ofChange fnMailTakeSpec)

/-- ITS FALSE NEIGHBOUR: 'it returns false'. Refute it at one input. -/
def fnMailTakeWrong : ChangeSpec := { name := "fnMailTake", fn := fun _ => fun
  | [d] => { results := [.lit (.bool false)], args := [d] }
  | _ => none }
def FnMailTakeWrongFalsely : Prop := fnMailTakeRow.holds Try.pinned (OpenSpec.ofChange fnMailTakeWrong)

/-- 'laws.FnExactMailSend': WHATEVER THE INPUT: true; the input reads as it did. -/
def fnExactMailSendSpec : ChangeSpec := { name := "fnExactMailSend", fn := fun _ => fun
  | [d1, d2] => { results := [.lit (.bool true)], args := [d1, d2] }
  | _ => none }
def fnExactMailSendRow : OpenClaim := { program := "ytkpdjnfgmgnjdaa", sum := "6608ba1a6100dce1eb071233c9304245f8ae7c7f4a31b4dbd7be9fa038819f67", func := "loop.example/exopager/laws.FnExactMailSend", spec := "fnExactMailSend", unfollowed := true, recurses := true, apart := false }
def FnExactMailSendSaid : Prop := fnExactMailSendRow.holds Try.pinned (OpenSpec.ofChange fnExactMailSendSpec)

/-- ITS FALSE NEIGHBOUR: 'it returns false'. Refute it at one input. -/
def fnExactMailSendWrong : ChangeSpec := { name := "fnExactMailSend", fn := fun _ => fun
  | [d1, d2] => { results := [.lit (.bool false)], args := [d1, d2] }
  | _ => none }
def FnExactMailSendWrongFalsely : Prop := fnExactMailSendRow.holds Try.pinned (OpenSpec.ofChange fnExactMailSendWrong)

/-- 'laws.FnExactMailWords': WHATEVER THE INPUT: true; the input reads as it did. -/
def fnExactMailWordsSpec : ChangeSpec := { name := "fnExactMailWords", fn := fun _ => fun
  | [d1, d2, d3] => { results := [.lit (.bool true)], args := [d1, d2, d3] }
  | _ => none }
def fnExactMailWordsRow : OpenClaim := { program := "ytkpdjnfgmgnjdaa", sum := "6608ba1a6100dce1eb071233c9304245f8ae7c7f4a31b4dbd7be9fa038819f67", func := "loop.example/exopager/laws.FnExactMailWords", spec := "fnExactMailWords", unfollowed := true, recurses := true, apart := false }
def FnExactMailWordsSaid : Prop := fnExactMailWordsRow.holds Try.pinned (OpenSpec.ofChange fnExactMailWordsSpec)

/-- ITS FALSE NEIGHBOUR: 'it returns false'. Refute it at one input. -/
def fnExactMailWordsWrong : ChangeSpec := { name := "fnExactMailWords", fn := fun _ => fun
  | [d1, d2, d3] => { results := [.lit (.bool false)], args := [d1, d2, d3] }
  | _ => none }
def FnExactMailWordsWrongFalsely : Prop := fnExactMailWordsRow.holds Try.pinned (OpenSpec.ofChange fnExactMailWordsWrong)

/-- 'laws.FnMailNone': WHATEVER THE INPUT: true; the input reads as it did. -/
def fnMailNoneSpec : ChangeSpec := { name := "fnMailNone", fn := fun _ => fun
  | [d] => { results := [.lit (.bool true)], args := [d] }
  | _ => none }
def fnMailNoneRow : OpenClaim := { program := "ytkpdjnfgmgnjdaa", sum := "6608ba1a6100dce1eb071233c9304245f8ae7c7f4a31b4dbd7be9fa038819f67", func := "loop.example/exopager/laws.FnMailNone", spec := "fnMailNone", unfollowed := true, recurses := true, apart := false }
def FnMailNoneSaid : Prop := fnMailNoneRow.holds Try.pinned (OpenSpec.ofChange fnMailNoneSpec)

/-- ITS FALSE NEIGHBOUR: 'it returns false'. Refute it at one input. -/
def fnMailNoneWrong : ChangeSpec := { name := "fnMailNone", fn := fun _ => fun
  | [d] => { results := [.lit (.bool false)], args := [d] }
  | _ => none }
def FnMailNoneWrongFalsely : Prop := fnMailNoneRow.holds Try.pinned (OpenSpec.ofChange fnMailNoneWrong)

/-- 'laws.FnExactMailTake': WHATEVER THE INPUT: true; the input reads as it did. -/
def fnExactMailTakeSpec : ChangeSpec := { name := "fnExactMailTake", fn := fun _ => fun
  | [d1, d2] => { results := [.lit (.bool true)], args := [d1, d2] }
  | _ => none }
def fnExactMailTakeRow : OpenClaim := { program := "ytkpdjnfgmgnjdaa", sum := "6608ba1a6100dce1eb071233c9304245f8ae7c7f4a31b4dbd7be9fa038819f67", func := "loop.example/exopager/laws.FnExactMailTake", spec := "fnExactMailTake", unfollowed := true, recurses := true, apart := false }
def FnExactMailTakeSaid : Prop := fnExactMailTakeRow.holds Try.pinned (OpenSpec.ofChange fnExactMailTakeSpec)

/-- ITS FALSE NEIGHBOUR: 'it returns false'. Refute it at one input. -/
def fnExactMailTakeWrong : ChangeSpec := { name := "fnExactMailTake", fn := fun _ => fun
  | [d1, d2] => { results := [.lit (.bool false)], args := [d1, d2] }
  | _ => none }
def FnExactMailTakeWrongFalsely : Prop := fnExactMailTakeRow.holds Try.pinned (OpenSpec.ofChange fnExactMailTakeWrong)

/-- 'laws.FnMailOrder': WHATEVER THE INPUT: true; the input reads as it did. -/
def fnMailOrderSpec : ChangeSpec := { name := "fnMailOrder", fn := fun _ => fun
  | [d] => { results := [.lit (.bool true)], args := [d] }
  | _ => none }
def fnMailOrderRow : OpenClaim := { program := "ytkpdjnfgmgnjdaa", sum := "6608ba1a6100dce1eb071233c9304245f8ae7c7f4a31b4dbd7be9fa038819f67", func := "loop.example/exopager/laws.FnMailOrder", spec := "fnMailOrder", unfollowed := true, recurses := true, apart := false }
def FnMailOrderSaid : Prop := fnMailOrderRow.holds Try.pinned (OpenSpec.ofChange fnMailOrderSpec)

/-- ITS FALSE NEIGHBOUR: 'it returns false'. Refute it at one input. -/
def fnMailOrderWrong : ChangeSpec := { name := "fnMailOrder", fn := fun _ => fun
  | [d] => { results := [.lit (.bool false)], args := [d] }
  | _ => none }
def FnMailOrderWrongFalsely : Prop := fnMailOrderRow.holds Try.pinned (OpenSpec.ofChange fnMailOrderWrong)

/-- 'laws.FnMailOther': WHATEVER THE INPUT: true; the input reads as it did. -/
def fnMailOtherSpec : ChangeSpec := { name := "fnMailOther", fn := fun _ => fun
  | [d] => { results := [.lit (.bool true)], args := [d] }
  | _ => none }
def fnMailOtherRow : OpenClaim := { program := "ytkpdjnfgmgnjdaa", sum := "6608ba1a6100dce1eb071233c9304245f8ae7c7f4a31b4dbd7be9fa038819f67", func := "loop.example/exopager/laws.FnMailOther", spec := "fnMailOther", unfollowed := true, recurses := true, apart := false }
def FnMailOtherSaid : Prop := fnMailOtherRow.holds Try.pinned (OpenSpec.ofChange fnMailOtherSpec)

/-- ITS FALSE NEIGHBOUR: 'it returns false'. Refute it at one input. -/
def fnMailOtherWrong : ChangeSpec := { name := "fnMailOther", fn := fun _ => fun
  | [d] => { results := [.lit (.bool false)], args := [d] }
  | _ => none }
def FnMailOtherWrongFalsely : Prop := fnMailOtherRow.holds Try.pinned (OpenSpec.ofChange fnMailOtherWrong)

/- THE SECOND FORM. 'bulk': how many values and letters a reading holds, each counted each time it is reached (what is shared counts as often as it is met; a slice's spare places count too). A statement '..UptoSaid' is the law's where the arguments, and the package variables that the reading takes, are together of bulk at most 1048576: NARROWER than '..Said'. Prove '..Said' where nothing that the law and all that it calls make is longer than what came in: it says more and counts as full. Else prove '..UptoSaid'. A law counts once. -/
mutual
def uptoBulk {H : Type} : DataW H → Nat
  | .lit (.string bytes) => bytes.length + 1
  | .lit _ => 1
  | .nil => 1
  | .ptr d => uptoBulk d + 1
  | .slice elems spare => uptoBulkAll elems + uptoBulkAll spare + 1
  | .agg parts => uptoBulkAll parts + 1
  | .iface _ d => uptoBulk d + 1
  | .map entries => uptoBulkEntries entries + 1
  | .held _ => 1
def uptoBulkAll {H : Type} : List (DataW H) → Nat
  | [] => 0
  | d :: r => uptoBulk d + uptoBulkAll r
def uptoBulkEntries {H : Type} : List (Lit × DataW H) → Nat
  | [] => 0
  | x :: r => uptoBulkEntry x + uptoBulkEntries r
def uptoBulkEntry {H : Type} : Lit × DataW H → Nat
  | (.string bytes, d) => bytes.length + uptoBulk d + 1
  | (_, d) => uptoBulk d + 1
 end
def uptoSmall : (H : Type) → List (DataW H) → Bool := fun _ ds => decide (uptoBulkAll ds ≤ 1048576)
def OpenSpec.upto (s : _root_.Go.ChangeSpec) : _root_.Go.OpenSpec := { _root_.Go.OpenSpec.ofChange s with cond := some uptoSmall }

/-- 'laws.FnExactTableNeeds', WHERE WHAT IT READS IS OF BULK AT MOST 1048576: true; the input reads as it did. -/
def fnExactTableNeedsUptoRow : OpenClaim := { program := "ytkpdjnfgmgnjdaa", sum := "6608ba1a6100dce1eb071233c9304245f8ae7c7f4a31b4dbd7be9fa038819f67", func := "loop.example/exopager/laws.FnExactTableNeeds", spec := "fnExactTableNeeds", apart := false, narrowed := true }
def FnExactTableNeedsUptoSaid : Prop := fnExactTableNeedsUptoRow.holds Try.pinned (OpenSpec.upto fnExactTableNeedsSpec)

/-- 'laws.FnTableNeeds', WHERE WHAT IT READS IS OF BULK AT MOST 1048576: true; the input reads as it did. -/
def fnTableNeedsUptoRow : OpenClaim := { program := "ytkpdjnfgmgnjdaa", sum := "6608ba1a6100dce1eb071233c9304245f8ae7c7f4a31b4dbd7be9fa038819f67", func := "loop.example/exopager/laws.FnTableNeeds", spec := "fnTableNeeds", apart := false, narrowed := true }
def FnTableNeedsUptoSaid : Prop := fnTableNeedsUptoRow.holds Try.pinned (OpenSpec.upto fnTableNeedsSpec)

/-- 'laws.FnMailPart', WHERE WHAT IT READS IS OF BULK AT MOST 1048576: true; the input reads as it did. -/
def fnMailPartUptoRow : OpenClaim := { program := "ytkpdjnfgmgnjdaa", sum := "6608ba1a6100dce1eb071233c9304245f8ae7c7f4a31b4dbd7be9fa038819f67", func := "loop.example/exopager/laws.FnMailPart", spec := "fnMailPart", unfollowed := true, recurses := true, apart := false, narrowed := true }
def FnMailPartUptoSaid : Prop := fnMailPartUptoRow.holds Try.pinned (OpenSpec.upto fnMailPartSpec)

/-- 'laws.FnExactMailsValid', WHERE WHAT IT READS IS OF BULK AT MOST 1048576: true; the input reads as it did. -/
def fnExactMailsValidUptoRow : OpenClaim := { program := "ytkpdjnfgmgnjdaa", sum := "6608ba1a6100dce1eb071233c9304245f8ae7c7f4a31b4dbd7be9fa038819f67", func := "loop.example/exopager/laws.FnExactMailsValid", spec := "fnExactMailsValid", unfollowed := true, recurses := true, apart := false, narrowed := true }
def FnExactMailsValidUptoSaid : Prop := fnExactMailsValidUptoRow.holds Try.pinned (OpenSpec.upto fnExactMailsValidSpec)

/-- 'laws.FnMailWords', WHERE WHAT IT READS IS OF BULK AT MOST 1048576: true; the input reads as it did. -/
def fnMailWordsUptoRow : OpenClaim := { program := "ytkpdjnfgmgnjdaa", sum := "6608ba1a6100dce1eb071233c9304245f8ae7c7f4a31b4dbd7be9fa038819f67", func := "loop.example/exopager/laws.FnMailWords", spec := "fnMailWords", unfollowed := true, recurses := true, apart := false, narrowed := true }
def FnMailWordsUptoSaid : Prop := fnMailWordsUptoRow.holds Try.pinned (OpenSpec.upto fnMailWordsSpec)

/-- 'laws.FnMailFull', WHERE WHAT IT READS IS OF BULK AT MOST 1048576: true; the input reads as it did. -/
def fnMailFullUptoRow : OpenClaim := { program := "ytkpdjnfgmgnjdaa", sum := "6608ba1a6100dce1eb071233c9304245f8ae7c7f4a31b4dbd7be9fa038819f67", func := "loop.example/exopager/laws.FnMailFull", spec := "fnMailFull", unfollowed := true, recurses := true, apart := false, narrowed := true }
def FnMailFullUptoSaid : Prop := fnMailFullUptoRow.holds Try.pinned (OpenSpec.upto fnMailFullSpec)

/-- 'laws.FnMailSend', WHERE WHAT IT READS IS OF BULK AT MOST 1048576: true; the input reads as it did. -/
def fnMailSendUptoRow : OpenClaim := { program := "ytkpdjnfgmgnjdaa", sum := "6608ba1a6100dce1eb071233c9304245f8ae7c7f4a31b4dbd7be9fa038819f67", func := "loop.example/exopager/laws.FnMailSend", spec := "fnMailSend", unfollowed := true, recurses := true, apart := false, narrowed := true }
def FnMailSendUptoSaid : Prop := fnMailSendUptoRow.holds Try.pinned (OpenSpec.upto fnMailSendSpec)

/-- 'laws.FnMailTake', WHERE WHAT IT READS IS OF BULK AT MOST 1048576: true; the input reads as it did. -/
def fnMailTakeUptoRow : OpenClaim := { program := "ytkpdjnfgmgnjdaa", sum := "6608ba1a6100dce1eb071233c9304245f8ae7c7f4a31b4dbd7be9fa038819f67", func := "loop.example/exopager/laws.FnMailTake", spec := "fnMailTake", unfollowed := true, recurses := true, apart := false, narrowed := true }
def FnMailTakeUptoSaid : Prop := fnMailTakeUptoRow.holds Try.pinned (OpenSpec.upto fnMailTakeSpec)

/-- 'laws.FnExactMailSend', WHERE WHAT IT READS IS OF BULK AT MOST 1048576: true; the input reads as it did. -/
def fnExactMailSendUptoRow : OpenClaim := { program := "ytkpdjnfgmgnjdaa", sum := "6608ba1a6100dce1eb071233c9304245f8ae7c7f4a31b4dbd7be9fa038819f67", func := "loop.example/exopager/laws.FnExactMailSend", spec := "fnExactMailSend", unfollowed := true, recurses := true, apart := false, narrowed := true }
def FnExactMailSendUptoSaid : Prop := fnExactMailSendUptoRow.holds Try.pinned (OpenSpec.upto fnExactMailSendSpec)

/-- 'laws.FnExactMailWords', WHERE WHAT IT READS IS OF BULK AT MOST 1048576: true; the input reads as it did. -/
def fnExactMailWordsUptoRow : OpenClaim := { program := "ytkpdjnfgmgnjdaa", sum := "6608ba1a6100dce1eb071233c9304245f8ae7c7f4a31b4dbd7be9fa038819f67", func := "loop.example/exopager/laws.FnExactMailWords", spec := "fnExactMailWords", unfollowed := true, recurses := true, apart := false, narrowed := true }
def FnExactMailWordsUptoSaid : Prop := fnExactMailWordsUptoRow.holds Try.pinned (OpenSpec.upto fnExactMailWordsSpec)

/-- 'laws.FnMailNone', WHERE WHAT IT READS IS OF BULK AT MOST 1048576: true; the input reads as it did. -/
def fnMailNoneUptoRow : OpenClaim := { program := "ytkpdjnfgmgnjdaa", sum := "6608ba1a6100dce1eb071233c9304245f8ae7c7f4a31b4dbd7be9fa038819f67", func := "loop.example/exopager/laws.FnMailNone", spec := "fnMailNone", unfollowed := true, recurses := true, apart := false, narrowed := true }
def FnMailNoneUptoSaid : Prop := fnMailNoneUptoRow.holds Try.pinned (OpenSpec.upto fnMailNoneSpec)

/-- 'laws.FnExactMailTake', WHERE WHAT IT READS IS OF BULK AT MOST 1048576: true; the input reads as it did. -/
def fnExactMailTakeUptoRow : OpenClaim := { program := "ytkpdjnfgmgnjdaa", sum := "6608ba1a6100dce1eb071233c9304245f8ae7c7f4a31b4dbd7be9fa038819f67", func := "loop.example/exopager/laws.FnExactMailTake", spec := "fnExactMailTake", unfollowed := true, recurses := true, apart := false, narrowed := true }
def FnExactMailTakeUptoSaid : Prop := fnExactMailTakeUptoRow.holds Try.pinned (OpenSpec.upto fnExactMailTakeSpec)

/-- 'laws.FnMailOrder', WHERE WHAT IT READS IS OF BULK AT MOST 1048576: true; the input reads as it did. -/
def fnMailOrderUptoRow : OpenClaim := { program := "ytkpdjnfgmgnjdaa", sum := "6608ba1a6100dce1eb071233c9304245f8ae7c7f4a31b4dbd7be9fa038819f67", func := "loop.example/exopager/laws.FnMailOrder", spec := "fnMailOrder", unfollowed := true, recurses := true, apart := false, narrowed := true }
def FnMailOrderUptoSaid : Prop := fnMailOrderUptoRow.holds Try.pinned (OpenSpec.upto fnMailOrderSpec)

/-- 'laws.FnMailOther', WHERE WHAT IT READS IS OF BULK AT MOST 1048576: true; the input reads as it did. -/
def fnMailOtherUptoRow : OpenClaim := { program := "ytkpdjnfgmgnjdaa", sum := "6608ba1a6100dce1eb071233c9304245f8ae7c7f4a31b4dbd7be9fa038819f67", func := "loop.example/exopager/laws.FnMailOther", spec := "fnMailOther", unfollowed := true, recurses := true, apart := false, narrowed := true }
def FnMailOtherUptoSaid : Prop := fnMailOtherUptoRow.holds Try.pinned (OpenSpec.upto fnMailOtherSpec)

end Rows
end Go.Proofs.Ytkpdjnfgmgnjdaa
