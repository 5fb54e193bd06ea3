/-
  DERIVED. GIVEN WITH THE SEED: THE CARDS: each row of YtojknkpjnchchaaGreatDoorRows.lean that lists a variable, with what it lists TIED to the program's text (the seventh form; the later family's looks); each row that meets fmt, with fmt's text TOLD by the authors' own Lean function (tested against real Go, not proved from fmt's source: count such statements apart). THE CARD IS WHAT COUNTS. Prove the row's statement (the work); the ties are given (YtojknkpjnchchaaGreatDoorTie.lean); close each card by the builder's one call (the guide's Derived/Test/ToyasCard.lean, 'card_holds'). Laid BY PROGRAM, IN A SANDBOX (cutbox-door.mjs). By AI agents, Wed Nov 11 2026. No macro, syntax, notation, axiom, sorry.
-/
import Derived.Test.YtojknkpjnchchaaGreatDoorRows
import GoSem.ClaimSeven
namespace Go.Proofs.YtojknkpjnchchaaGreatDoor
namespace Rows

/-- THE TIED CARD OF 'laws.FnExactKernelValid'. -/
def fnExactKernelValidCard : Claim7 := { stood := { row := fnExactKernelValidRow, standIns := [], harness := (true, "dc02844a61929d7a4de7963b9f55419d2b708fa38b3510899aff963571d6689d"), looks := false }, kinds := [], alts := [], laidByText := true, laidKinds := [.data, .pinned], laidTests := true, laidLooks := .later }
def FnExactKernelValidCardSaid : Prop := Claim7.holds Tryz.pinned (.plain (OpenSpec.ofChange fnExactKernelValidSpec)) fnExactKernelValidCard

/-- THE TIED CARD OF 'laws.FnExactKernelSees'. -/
def fnExactKernelSeesCard : Claim7 := { stood := { row := fnExactKernelSeesRow, standIns := [], harness := (true, "dc02844a61929d7a4de7963b9f55419d2b708fa38b3510899aff963571d6689d"), looks := false }, kinds := [], alts := [], laidByText := true, laidKinds := [.data, .pinned], laidTests := true, laidLooks := .later }
def FnExactKernelSeesCardSaid : Prop := Claim7.holds Tryz.pinned (.plain (OpenSpec.ofChange fnExactKernelSeesSpec)) fnExactKernelSeesCard

/-- THE TIED CARD OF 'laws.FnExactKernelReach'. -/
def fnExactKernelReachCard : Claim7 := { stood := { row := fnExactKernelReachRow, standIns := [], harness := (true, "dc02844a61929d7a4de7963b9f55419d2b708fa38b3510899aff963571d6689d"), looks := false }, kinds := [], alts := [], laidByText := true, laidKinds := [.data, .pinned], laidTests := true, laidLooks := .later }
def FnExactKernelReachCardSaid : Prop := Claim7.holds Tryz.pinned (.plain (OpenSpec.ofChange fnExactKernelReachSpec)) fnExactKernelReachCard

/-- THE TIED CARD OF 'laws.FnKernelNew'. -/
def fnKernelNewCard : Claim7 := { stood := { row := fnKernelNewRow, standIns := [], harness := (true, "dc02844a61929d7a4de7963b9f55419d2b708fa38b3510899aff963571d6689d"), looks := false }, kinds := [], alts := [], laidByText := true, laidKinds := [.data, .pinned], laidTests := true, laidLooks := .later }
def FnKernelNewCardSaid : Prop := Claim7.holds Tryz.pinned (.plain (OpenSpec.ofChange fnKernelNewSpec)) fnKernelNewCard

/-- THE SECOND FORM's CARD OF 'laws.FnExactKernelValid'. -/
def fnExactKernelValidUptoCard : Claim7 := { stood := { row := fnExactKernelValidUptoRow, standIns := [], harness := (true, "dc02844a61929d7a4de7963b9f55419d2b708fa38b3510899aff963571d6689d"), looks := false }, kinds := [], alts := [], laidByText := true, laidKinds := [.data, .pinned], laidTests := true, laidLooks := .later }
def FnExactKernelValidUptoCardSaid : Prop := Claim7.holds Tryz.pinned (.plain (OpenSpec.upto fnExactKernelValidSpec)) fnExactKernelValidUptoCard

/-- THE SECOND FORM's CARD OF 'laws.FnExactKernelSees'. -/
def fnExactKernelSeesUptoCard : Claim7 := { stood := { row := fnExactKernelSeesUptoRow, standIns := [], harness := (true, "dc02844a61929d7a4de7963b9f55419d2b708fa38b3510899aff963571d6689d"), looks := false }, kinds := [], alts := [], laidByText := true, laidKinds := [.data, .pinned], laidTests := true, laidLooks := .later }
def FnExactKernelSeesUptoCardSaid : Prop := Claim7.holds Tryz.pinned (.plain (OpenSpec.upto fnExactKernelSeesSpec)) fnExactKernelSeesUptoCard

/-- THE SECOND FORM's CARD OF 'laws.FnExactKernelReach'. -/
def fnExactKernelReachUptoCard : Claim7 := { stood := { row := fnExactKernelReachUptoRow, standIns := [], harness := (true, "dc02844a61929d7a4de7963b9f55419d2b708fa38b3510899aff963571d6689d"), looks := false }, kinds := [], alts := [], laidByText := true, laidKinds := [.data, .pinned], laidTests := true, laidLooks := .later }
def FnExactKernelReachUptoCardSaid : Prop := Claim7.holds Tryz.pinned (.plain (OpenSpec.upto fnExactKernelReachSpec)) fnExactKernelReachUptoCard

/-- THE SECOND FORM's CARD OF 'laws.FnKernelNew'. -/
def fnKernelNewUptoCard : Claim7 := { stood := { row := fnKernelNewUptoRow, standIns := [], harness := (true, "dc02844a61929d7a4de7963b9f55419d2b708fa38b3510899aff963571d6689d"), looks := false }, kinds := [], alts := [], laidByText := true, laidKinds := [.data, .pinned], laidTests := true, laidLooks := .later }
def FnKernelNewUptoCardSaid : Prop := Claim7.holds Tryz.pinned (.plain (OpenSpec.upto fnKernelNewSpec)) fnKernelNewUptoCard
end Rows
end Go.Proofs.YtojknkpjnchchaaGreatDoor
