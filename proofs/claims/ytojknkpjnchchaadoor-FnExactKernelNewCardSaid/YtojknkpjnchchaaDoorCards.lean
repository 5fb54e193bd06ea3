/-
  DERIVED. GIVEN WITH THE SEED: THE CARDS: each row of YtojknkpjnchchaaDoorRows.lean that lists a variable, with what it lists TIED to the program's text (the seventh form; the later family's looks); each row that meets fmt, with fmt's text TOLD by the authors' own Lean function (tested against real Go, not proved from fmt's source: count such statements apart). THE CARD IS WHAT COUNTS. Prove the row's statement (the work); the ties are given (YtojknkpjnchchaaDoorTie.lean); close each card by the builder's one call (the guide's Derived/Test/ToyasCard.lean, 'card_holds'). Laid BY PROGRAM, IN A SANDBOX (cutbox-door.mjs). By AI agents, Wed Nov 11 2026. No macro, syntax, notation, axiom, sorry.
-/
import Derived.Test.YtojknkpjnchchaaDoorRows
import GoSem.ClaimSeven
namespace Go.Proofs.YtojknkpjnchchaaDoor
namespace Rows

/-- THE TIED CARD OF 'laws.FnExactKernelNew'. -/
def fnExactKernelNewCard : Claim7 := { stood := { row := fnExactKernelNewRow, standIns := [], harness := (true, "85e1520e473d486377c22199be48cab28accc8127e6351f19dde887b5c6f4884"), looks := false }, kinds := [], alts := [], laidByText := true, laidKinds := [.data, .pinned], laidTests := true, laidLooks := .later }
def FnExactKernelNewCardSaid : Prop := Claim7.holds Tryd.pinned (.plain (OpenSpec.ofChange fnExactKernelNewSpec)) fnExactKernelNewCard

/-- THE SECOND FORM's CARD OF 'laws.FnExactKernelNew'. -/
def fnExactKernelNewUptoCard : Claim7 := { stood := { row := fnExactKernelNewUptoRow, standIns := [], harness := (true, "85e1520e473d486377c22199be48cab28accc8127e6351f19dde887b5c6f4884"), looks := false }, kinds := [], alts := [], laidByText := true, laidKinds := [.data, .pinned], laidTests := true, laidLooks := .later }
def FnExactKernelNewUptoCardSaid : Prop := Claim7.holds Tryd.pinned (.plain (OpenSpec.upto fnExactKernelNewSpec)) fnExactKernelNewUptoCard
end Rows
end Go.Proofs.YtojknkpjnchchaaDoor
