/-
  No cell of these rows narrows 'for every input' (looked for: loops, veiled, ifaces, maps, wideKeys, modest, calm, conditions, laid).
  DERIVED. THE GIVEN ROWS OF THIS SEAT. 10 by the template 'for every input the law returns true; each argument reads behind the call as it read before'; 0 by the template 'total and deterministic' (their statements: YtppbhlocnccpnaaTotals.lean).
  GIVEN WITH THE SEED: the statements are not yours to turn. If you find one false, say at which input.
  Laid BY PROGRAM, IN A SANDBOX (cutbox-rows.mjs): the forced cells as the released guide's own fill.sh prints them over the translation f27e4b9caa24ee79… (all of the seat's roots in one cut). By AI agents, Wed Nov 11 2026. No macro, syntax, notation, axiom, sorry.
-/
import Derived.Test.YtppbhlocnccpnaaChecked
import GoSem.Claim
import GoSem.ClaimJoined
import GoSem.ClaimMapViews
import Derived.JoinedTies
import Derived.KernelRfl
namespace Go.Proofs.Ytppbhlocnccpnaa
/- THE CELL 'sum', in the pinned program and in every row, IS THE sha256 OF THE DUMP (.gsa) THAT YtppbhlocnccpnaaProg.lean LOADS. Nothing in Lean hashes anything: it is a label: what it is worth is what the hold of that sum in a sandbox is worth. -/
noncomputable def Try.pinned : Pinned := { name := "ytppbhlocnccpnaa", sum := "f27e4b9caa24ee7973b13b110423963b8fdd39086de6d6eb6632b35c3e2e9d33", checked := Try.checked }
namespace Rows
def none {H : Type} : Left H := { results := [], args := [] }

/-- 'laws.FnExactSwapValid': WHATEVER THE INPUT: true; the input reads as it did. -/
def fnExactSwapValidSpec : ChangeSpec := { name := "fnExactSwapValid", fn := fun _ => fun
  | [d] => { results := [.lit (.bool true)], args := [d] }
  | _ => none }
def fnExactSwapValidRow : OpenClaim := { program := "ytppbhlocnccpnaa", sum := "f27e4b9caa24ee7973b13b110423963b8fdd39086de6d6eb6632b35c3e2e9d33", func := "loop.example/exopager/laws.FnExactSwapValid", spec := "fnExactSwapValid", unfollowed := true, recurses := true, apart := false }
def FnExactSwapValidSaid : Prop := fnExactSwapValidRow.holds Try.pinned (OpenSpec.ofChange fnExactSwapValidSpec)

/-- ITS FALSE NEIGHBOUR: 'it returns false'. Refute it at one input. -/
def fnExactSwapValidWrong : ChangeSpec := { name := "fnExactSwapValid", fn := fun _ => fun
  | [d] => { results := [.lit (.bool false)], args := [d] }
  | _ => none }
def FnExactSwapValidWrongFalsely : Prop := fnExactSwapValidRow.holds Try.pinned (OpenSpec.ofChange fnExactSwapValidWrong)

/-- 'laws.FnSwapPart': WHATEVER THE INPUT: true; the input reads as it did. -/
def fnSwapPartSpec : ChangeSpec := { name := "fnSwapPart", fn := fun _ => fun
  | [d1, d2] => { results := [.lit (.bool true)], args := [d1, d2] }
  | _ => none }
def fnSwapPartRow : OpenClaim := { program := "ytppbhlocnccpnaa", sum := "f27e4b9caa24ee7973b13b110423963b8fdd39086de6d6eb6632b35c3e2e9d33", func := "loop.example/exopager/laws.FnSwapPart", spec := "fnSwapPart", unfollowed := true, recurses := true, apart := false }
def FnSwapPartSaid : Prop := fnSwapPartRow.holds Try.pinned (OpenSpec.ofChange fnSwapPartSpec)

/-- ITS FALSE NEIGHBOUR: 'it returns false'. Refute it at one input. -/
def fnSwapPartWrong : ChangeSpec := { name := "fnSwapPart", fn := fun _ => fun
  | [d1, d2] => { results := [.lit (.bool false)], args := [d1, d2] }
  | _ => none }
def FnSwapPartWrongFalsely : Prop := fnSwapPartRow.holds Try.pinned (OpenSpec.ofChange fnSwapPartWrong)

/-- 'laws.FnExactSwapGet': WHATEVER THE INPUT: true; the input reads as it did. -/
def fnExactSwapGetSpec : ChangeSpec := { name := "fnExactSwapGet", fn := fun _ => fun
  | [d1, d2] => { results := [.lit (.bool true)], args := [d1, d2] }
  | _ => none }
def fnExactSwapGetRow : OpenClaim := { program := "ytppbhlocnccpnaa", sum := "f27e4b9caa24ee7973b13b110423963b8fdd39086de6d6eb6632b35c3e2e9d33", func := "loop.example/exopager/laws.FnExactSwapGet", spec := "fnExactSwapGet", unfollowed := true, recurses := true, apart := false }
def FnExactSwapGetSaid : Prop := fnExactSwapGetRow.holds Try.pinned (OpenSpec.ofChange fnExactSwapGetSpec)

/-- ITS FALSE NEIGHBOUR: 'it returns false'. Refute it at one input. -/
def fnExactSwapGetWrong : ChangeSpec := { name := "fnExactSwapGet", fn := fun _ => fun
  | [d1, d2] => { results := [.lit (.bool false)], args := [d1, d2] }
  | _ => none }
def FnExactSwapGetWrongFalsely : Prop := fnExactSwapGetRow.holds Try.pinned (OpenSpec.ofChange fnExactSwapGetWrong)

/-- 'laws.FnExactSwapDrop': WHATEVER THE INPUT: true; the input reads as it did. -/
def fnExactSwapDropSpec : ChangeSpec := { name := "fnExactSwapDrop", fn := fun _ => fun
  | [d1, d2] => { results := [.lit (.bool true)], args := [d1, d2] }
  | _ => none }
def fnExactSwapDropRow : OpenClaim := { program := "ytppbhlocnccpnaa", sum := "f27e4b9caa24ee7973b13b110423963b8fdd39086de6d6eb6632b35c3e2e9d33", func := "loop.example/exopager/laws.FnExactSwapDrop", spec := "fnExactSwapDrop", unfollowed := true, recurses := true, apart := false }
def FnExactSwapDropSaid : Prop := fnExactSwapDropRow.holds Try.pinned (OpenSpec.ofChange fnExactSwapDropSpec)

/-- ITS FALSE NEIGHBOUR: 'it returns false'. Refute it at one input. -/
def fnExactSwapDropWrong : ChangeSpec := { name := "fnExactSwapDrop", fn := fun _ => fun
  | [d1, d2] => { results := [.lit (.bool false)], args := [d1, d2] }
  | _ => none }
def FnExactSwapDropWrongFalsely : Prop := fnExactSwapDropRow.holds Try.pinned (OpenSpec.ofChange fnExactSwapDropWrong)

/-- 'laws.FnSwapGet': WHATEVER THE INPUT: true; the input reads as it did. -/
def fnSwapGetSpec : ChangeSpec := { name := "fnSwapGet", fn := fun _ => fun
  | [d] => { results := [.lit (.bool true)], args := [d] }
  | _ => none }
def fnSwapGetRow : OpenClaim := { program := "ytppbhlocnccpnaa", sum := "f27e4b9caa24ee7973b13b110423963b8fdd39086de6d6eb6632b35c3e2e9d33", func := "loop.example/exopager/laws.FnSwapGet", spec := "fnSwapGet", unfollowed := true, recurses := true, apart := false }
def FnSwapGetSaid : Prop := fnSwapGetRow.holds Try.pinned (OpenSpec.ofChange fnSwapGetSpec)

/-- ITS FALSE NEIGHBOUR: 'it returns false'. Refute it at one input. -/
def fnSwapGetWrong : ChangeSpec := { name := "fnSwapGet", fn := fun _ => fun
  | [d] => { results := [.lit (.bool false)], args := [d] }
  | _ => none }
def FnSwapGetWrongFalsely : Prop := fnSwapGetRow.holds Try.pinned (OpenSpec.ofChange fnSwapGetWrong)

/-- 'laws.FnSwapFull': WHATEVER THE INPUT: true; the input reads as it did. -/
def fnSwapFullSpec : ChangeSpec := { name := "fnSwapFull", fn := fun _ => fun
  | [d] => { results := [.lit (.bool true)], args := [d] }
  | _ => none }
def fnSwapFullRow : OpenClaim := { program := "ytppbhlocnccpnaa", sum := "f27e4b9caa24ee7973b13b110423963b8fdd39086de6d6eb6632b35c3e2e9d33", func := "loop.example/exopager/laws.FnSwapFull", spec := "fnSwapFull", unfollowed := true, recurses := true, apart := false }
def FnSwapFullSaid : Prop := fnSwapFullRow.holds Try.pinned (OpenSpec.ofChange fnSwapFullSpec)

/-- ITS FALSE NEIGHBOUR: 'it returns false'. Refute it at one input. -/
def fnSwapFullWrong : ChangeSpec := { name := "fnSwapFull", fn := fun _ => fun
  | [d] => { results := [.lit (.bool false)], args := [d] }
  | _ => none }
def FnSwapFullWrongFalsely : Prop := fnSwapFullRow.holds Try.pinned (OpenSpec.ofChange fnSwapFullWrong)

/-- 'laws.FnSwapOthers': WHATEVER THE INPUT: true; the input reads as it did. -/
def fnSwapOthersSpec : ChangeSpec := { name := "fnSwapOthers", fn := fun _ => fun
  | [d] => { results := [.lit (.bool true)], args := [d] }
  | _ => none }
def fnSwapOthersRow : OpenClaim := { program := "ytppbhlocnccpnaa", sum := "f27e4b9caa24ee7973b13b110423963b8fdd39086de6d6eb6632b35c3e2e9d33", func := "loop.example/exopager/laws.FnSwapOthers", spec := "fnSwapOthers", unfollowed := true, recurses := true, apart := false }
def FnSwapOthersSaid : Prop := fnSwapOthersRow.holds Try.pinned (OpenSpec.ofChange fnSwapOthersSpec)

/-- ITS FALSE NEIGHBOUR: 'it returns false'. Refute it at one input. -/
def fnSwapOthersWrong : ChangeSpec := { name := "fnSwapOthers", fn := fun _ => fun
  | [d] => { results := [.lit (.bool false)], args := [d] }
  | _ => none }
def FnSwapOthersWrongFalsely : Prop := fnSwapOthersRow.holds Try.pinned (OpenSpec.ofChange fnSwapOthersWrong)

/-- 'laws.FnExactSwapPut': WHATEVER THE INPUT: true; the input reads as it did. -/
def fnExactSwapPutSpec : ChangeSpec := { name := "fnExactSwapPut", fn := fun _ => fun
  | [d1, d2] => { results := [.lit (.bool true)], args := [d1, d2] }
  | _ => none }
def fnExactSwapPutRow : OpenClaim := { program := "ytppbhlocnccpnaa", sum := "f27e4b9caa24ee7973b13b110423963b8fdd39086de6d6eb6632b35c3e2e9d33", func := "loop.example/exopager/laws.FnExactSwapPut", spec := "fnExactSwapPut", unfollowed := true, recurses := true, apart := false }
def FnExactSwapPutSaid : Prop := fnExactSwapPutRow.holds Try.pinned (OpenSpec.ofChange fnExactSwapPutSpec)

/-- ITS FALSE NEIGHBOUR: 'it returns false'. Refute it at one input. -/
def fnExactSwapPutWrong : ChangeSpec := { name := "fnExactSwapPut", fn := fun _ => fun
  | [d1, d2] => { results := [.lit (.bool false)], args := [d1, d2] }
  | _ => none }
def FnExactSwapPutWrongFalsely : Prop := fnExactSwapPutRow.holds Try.pinned (OpenSpec.ofChange fnExactSwapPutWrong)

/-- 'laws.FnSwapPut': WHATEVER THE INPUT: true; the input reads as it did. -/
def fnSwapPutSpec : ChangeSpec := { name := "fnSwapPut", fn := fun _ => fun
  | [d] => { results := [.lit (.bool true)], args := [d] }
  | _ => none }
def fnSwapPutRow : OpenClaim := { program := "ytppbhlocnccpnaa", sum := "f27e4b9caa24ee7973b13b110423963b8fdd39086de6d6eb6632b35c3e2e9d33", func := "loop.example/exopager/laws.FnSwapPut", spec := "fnSwapPut", unfollowed := true, recurses := true, apart := false }
def FnSwapPutSaid : Prop := fnSwapPutRow.holds Try.pinned (OpenSpec.ofChange fnSwapPutSpec)

/-- ITS FALSE NEIGHBOUR: 'it returns false'. Refute it at one input. -/
def fnSwapPutWrong : ChangeSpec := { name := "fnSwapPut", fn := fun _ => fun
  | [d] => { results := [.lit (.bool false)], args := [d] }
  | _ => none }
def FnSwapPutWrongFalsely : Prop := fnSwapPutRow.holds Try.pinned (OpenSpec.ofChange fnSwapPutWrong)

/-- 'laws.FnSwapPutDrop': WHATEVER THE INPUT: true; the input reads as it did. -/
def fnSwapPutDropSpec : ChangeSpec := { name := "fnSwapPutDrop", fn := fun _ => fun
  | [d] => { results := [.lit (.bool true)], args := [d] }
  | _ => none }
def fnSwapPutDropRow : OpenClaim := { program := "ytppbhlocnccpnaa", sum := "f27e4b9caa24ee7973b13b110423963b8fdd39086de6d6eb6632b35c3e2e9d33", func := "loop.example/exopager/laws.FnSwapPutDrop", spec := "fnSwapPutDrop", unfollowed := true, recurses := true, apart := false }
def FnSwapPutDropSaid : Prop := fnSwapPutDropRow.holds Try.pinned (OpenSpec.ofChange fnSwapPutDropSpec)

/-- ITS FALSE NEIGHBOUR: 'it returns false'. Refute it at one input. -/
def fnSwapPutDropWrong : ChangeSpec := { name := "fnSwapPutDrop", fn := fun _ => fun
  | [d] => { results := [.lit (.bool false)], args := [d] }
  | _ => none }
def FnSwapPutDropWrongFalsely : Prop := fnSwapPutDropRow.holds Try.pinned (OpenSpec.ofChange fnSwapPutDropWrong)

/- THE SECOND FORM. 'bulk': how many values and letters a reading holds, each counted each time it is reached (what is shared counts as often as it is met; a slice's spare places count too). A statement '..UptoSaid' is the law's where the arguments, and the package variables that the reading takes, are together of bulk at most 1048576: NARROWER than '..Said'. Prove '..Said' where nothing that the law and all that it calls make is longer than what came in: it says more and counts as full. Else prove '..UptoSaid'. A law counts once. -/
mutual
def uptoBulk {H : Type} : DataW H → Nat
  | .lit (.string bytes) => bytes.length + 1
  | .lit _ => 1
  | .nil => 1
  | .ptr d => uptoBulk d + 1
  | .slice elems spare => uptoBulkAll elems + uptoBulkAll spare + 1
  | .agg parts => uptoBulkAll parts + 1
  | .iface _ d => uptoBulk d + 1
  | .map entries => uptoBulkEntries entries + 1
  | .held _ => 1
def uptoBulkAll {H : Type} : List (DataW H) → Nat
  | [] => 0
  | d :: r => uptoBulk d + uptoBulkAll r
def uptoBulkEntries {H : Type} : List (Lit × DataW H) → Nat
  | [] => 0
  | x :: r => uptoBulkEntry x + uptoBulkEntries r
def uptoBulkEntry {H : Type} : Lit × DataW H → Nat
  | (.string bytes, d) => bytes.length + uptoBulk d + 1
  | (_, d) => uptoBulk d + 1
 end
def uptoSmall : (H : Type) → List (DataW H) → Bool := fun _ ds => decide (uptoBulkAll ds ≤ 1048576)
def OpenSpec.upto (s : _root_.Go.ChangeSpec) : _root_.Go.OpenSpec := { _root_.Go.OpenSpec.ofChange s with cond := some uptoSmall }

/-- 'laws.FnExactSwapValid', WHERE WHAT IT READS IS OF BULK AT MOST 1048576: true; the input reads as it did. -/
def fnExactSwapValidUptoRow : OpenClaim := { program := "ytppbhlocnccpnaa", sum := "f27e4b9caa24ee7973b13b110423963b8fdd39086de6d6eb6632b35c3e2e9d33", func := "loop.example/exopager/laws.FnExactSwapValid", spec := "fnExactSwapValid", unfollowed := true, recurses := true, apart := false, narrowed := true }
def FnExactSwapValidUptoSaid : Prop := fnExactSwapValidUptoRow.holds Try.pinned (OpenSpec.upto fnExactSwapValidSpec)

/-- 'laws.FnSwapPart', WHERE WHAT IT READS IS OF BULK AT MOST 1048576: true; the input reads as it did. -/
def fnSwapPartUptoRow : OpenClaim := { program := "ytppbhlocnccpnaa", sum := "f27e4b9caa24ee7973b13b110423963b8fdd39086de6d6eb6632b35c3e2e9d33", func := "loop.example/exopager/laws.FnSwapPart", spec := "fnSwapPart", unfollowed := true, recurses := true, apart := false, narrowed := true }
def FnSwapPartUptoSaid : Prop := fnSwapPartUptoRow.holds Try.pinned (OpenSpec.upto fnSwapPartSpec)

/-- 'laws.FnExactSwapGet', WHERE WHAT IT READS IS OF BULK AT MOST 1048576: true; the input reads as it did. -/
def fnExactSwapGetUptoRow : OpenClaim := { program := "ytppbhlocnccpnaa", sum := "f27e4b9caa24ee7973b13b110423963b8fdd39086de6d6eb6632b35c3e2e9d33", func := "loop.example/exopager/laws.FnExactSwapGet", spec := "fnExactSwapGet", unfollowed := true, recurses := true, apart := false, narrowed := true }
def FnExactSwapGetUptoSaid : Prop := fnExactSwapGetUptoRow.holds Try.pinned (OpenSpec.upto fnExactSwapGetSpec)

/-- 'laws.FnExactSwapDrop', WHERE WHAT IT READS IS OF BULK AT MOST 1048576: true; the input reads as it did. -/
def fnExactSwapDropUptoRow : OpenClaim := { program := "ytppbhlocnccpnaa", sum := "f27e4b9caa24ee7973b13b110423963b8fdd39086de6d6eb6632b35c3e2e9d33", func := "loop.example/exopager/laws.FnExactSwapDrop", spec := "fnExactSwapDrop", unfollowed := true, recurses := true, apart := false, narrowed := true }
def FnExactSwapDropUptoSaid : Prop := fnExactSwapDropUptoRow.holds Try.pinned (OpenSpec.upto fnExactSwapDropSpec)

/-- 'laws.FnSwapGet', WHERE WHAT IT READS IS OF BULK AT MOST 1048576: true; the input reads as it did. -/
def fnSwapGetUptoRow : OpenClaim := { program := "ytppbhlocnccpnaa", sum := "f27e4b9caa24ee7973b13b110423963b8fdd39086de6d6eb6632b35c3e2e9d33", func := "loop.example/exopager/laws.FnSwapGet", spec := "fnSwapGet", unfollowed := true, recurses := true, apart := false, narrowed := true }
def FnSwapGetUptoSaid : Prop := fnSwapGetUptoRow.holds Try.pinned (OpenSpec.upto fnSwapGetSpec)

/-- 'laws.FnSwapFull', WHERE WHAT IT READS IS OF BULK AT MOST 1048576: true; the input reads as it did. -/
def fnSwapFullUptoRow : OpenClaim := { program := "ytppbhlocnccpnaa", sum := "f27e4b9caa24ee7973b13b110423963b8fdd39086de6d6eb6632b35c3e2e9d33", func := "loop.example/exopager/laws.FnSwapFull", spec := "fnSwapFull", unfollowed := true, recurses := true, apart := false, narrowed := true }
def FnSwapFullUptoSaid : Prop := fnSwapFullUptoRow.holds Try.pinned (OpenSpec.upto fnSwapFullSpec)

/-- 'laws.FnSwapOthers', WHERE WHAT IT READS IS OF BULK AT MOST 1048576: true; the input reads as it did. -/
def fnSwapOthersUptoRow : OpenClaim := { program := "ytppbhlocnccpnaa", sum := "f27e4b9caa24ee7973b13b110423963b8fdd39086de6d6eb6632b35c3e2e9d33", func := "loop.example/exopager/laws.FnSwapOthers", spec := "fnSwapOthers", unfollowed := true, recurses := true, apart := false, narrowed := true }
def FnSwapOthersUptoSaid : Prop := fnSwapOthersUptoRow.holds Try.pinned (OpenSpec.upto fnSwapOthersSpec)

/-- 'laws.FnExactSwapPut', WHERE WHAT IT READS IS OF BULK AT MOST 1048576: true; the input reads as it did. -/
def fnExactSwapPutUptoRow : OpenClaim := { program := "ytppbhlocnccpnaa", sum := "f27e4b9caa24ee7973b13b110423963b8fdd39086de6d6eb6632b35c3e2e9d33", func := "loop.example/exopager/laws.FnExactSwapPut", spec := "fnExactSwapPut", unfollowed := true, recurses := true, apart := false, narrowed := true }
def FnExactSwapPutUptoSaid : Prop := fnExactSwapPutUptoRow.holds Try.pinned (OpenSpec.upto fnExactSwapPutSpec)

/-- 'laws.FnSwapPut', WHERE WHAT IT READS IS OF BULK AT MOST 1048576: true; the input reads as it did. -/
def fnSwapPutUptoRow : OpenClaim := { program := "ytppbhlocnccpnaa", sum := "f27e4b9caa24ee7973b13b110423963b8fdd39086de6d6eb6632b35c3e2e9d33", func := "loop.example/exopager/laws.FnSwapPut", spec := "fnSwapPut", unfollowed := true, recurses := true, apart := false, narrowed := true }
def FnSwapPutUptoSaid : Prop := fnSwapPutUptoRow.holds Try.pinned (OpenSpec.upto fnSwapPutSpec)

/-- 'laws.FnSwapPutDrop', WHERE WHAT IT READS IS OF BULK AT MOST 1048576: true; the input reads as it did. -/
def fnSwapPutDropUptoRow : OpenClaim := { program := "ytppbhlocnccpnaa", sum := "f27e4b9caa24ee7973b13b110423963b8fdd39086de6d6eb6632b35c3e2e9d33", func := "loop.example/exopager/laws.FnSwapPutDrop", spec := "fnSwapPutDrop", unfollowed := true, recurses := true, apart := false, narrowed := true }
def FnSwapPutDropUptoSaid : Prop := fnSwapPutDropUptoRow.holds Try.pinned (OpenSpec.upto fnSwapPutDropSpec)

end Rows
end Go.Proofs.Ytppbhlocnccpnaa
