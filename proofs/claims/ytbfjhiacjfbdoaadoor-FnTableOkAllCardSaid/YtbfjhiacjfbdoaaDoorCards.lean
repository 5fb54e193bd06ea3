/-
  DERIVED. GIVEN WITH THE SEED: THE CARDS: each row of YtbfjhiacjfbdoaaDoorRows.lean that lists a variable, with what it lists TIED to the program's text (the seventh form; the later family's looks); each row that meets fmt, with fmt's text TOLD by the authors' own Lean function (tested against real Go, not proved from fmt's source: count such statements apart). THE CARD IS WHAT COUNTS. Prove the row's statement (the work); the ties are given (YtbfjhiacjfbdoaaDoorTie.lean); close each card by the builder's one call (the guide's Derived/Test/ToyasCard.lean, 'card_holds'). Laid BY PROGRAM, IN A SANDBOX (cutbox-door.mjs). By AI agents, Wed Nov 11 2026. No macro, syntax, notation, axiom, sorry.
-/
import Derived.Test.YtbfjhiacjfbdoaaDoorRows
import GoSem.ClaimSeven
namespace Go.Proofs.YtbfjhiacjfbdoaaDoor
namespace Rows

/-- THE TIED CARD OF 'laws.FnTableCount'. -/
def fnTableCountCard : Claim7 := { stood := { row := fnTableCountRow, standIns := [], harness := (true, "3b8e8ff62d51e8fbfa9c5c49418b52677774030f45ec557ad01b655db51bf559"), looks := false }, kinds := [], alts := [], laidByText := true, laidKinds := [.data, .pinned], laidTests := true, laidLooks := .later }
def FnTableCountCardSaid : Prop := Claim7.holds Tryd.pinned (.plain (OpenSpec.ofChange fnTableCountSpec)) fnTableCountCard

/-- THE TIED CARD OF 'laws.FnExactTableCount'. -/
def fnExactTableCountCard : Claim7 := { stood := { row := fnExactTableCountRow, standIns := [], harness := (true, "3b8e8ff62d51e8fbfa9c5c49418b52677774030f45ec557ad01b655db51bf559"), looks := false }, kinds := [], alts := [], laidByText := true, laidKinds := [.data, .pinned], laidTests := true, laidLooks := .later }
def FnExactTableCountCardSaid : Prop := Claim7.holds Tryd.pinned (.plain (OpenSpec.ofChange fnExactTableCountSpec)) fnExactTableCountCard

/-- THE TIED CARD OF 'laws.FnExactTableOk'. -/
def fnExactTableOkCard : Claim7 := { stood := { row := fnExactTableOkRow, standIns := [], harness := (true, "3b8e8ff62d51e8fbfa9c5c49418b52677774030f45ec557ad01b655db51bf559"), looks := false }, kinds := [], alts := [], laidByText := true, laidKinds := [.data, .pinned], laidTests := true, laidLooks := .later }
def FnExactTableOkCardSaid : Prop := Claim7.holds Tryd.pinned (.plain (OpenSpec.ofChange fnExactTableOkSpec)) fnExactTableOkCard

/-- THE TIED CARD OF 'laws.FnExactTableUnpin'. -/
def fnExactTableUnpinCard : Claim7 := { stood := { row := fnExactTableUnpinRow, standIns := [], harness := (true, "3b8e8ff62d51e8fbfa9c5c49418b52677774030f45ec557ad01b655db51bf559"), looks := false }, kinds := [], alts := [], laidByText := true, laidKinds := [.data, .pinned], laidTests := true, laidLooks := .later }
def FnExactTableUnpinCardSaid : Prop := Claim7.holds Tryd.pinned (.plain (OpenSpec.ofChange fnExactTableUnpinSpec)) fnExactTableUnpinCard

/-- THE TIED CARD OF 'laws.FnTableOkAll'. -/
def fnTableOkAllCard : Claim7 := { stood := { row := fnTableOkAllRow, standIns := [], harness := (true, "3b8e8ff62d51e8fbfa9c5c49418b52677774030f45ec557ad01b655db51bf559"), looks := false }, kinds := [], alts := [], laidByText := true, laidKinds := [.data, .pinned], laidTests := true, laidLooks := .later }
def FnTableOkAllCardSaid : Prop := Claim7.holds Tryd.pinned (.plain (OpenSpec.ofChange fnTableOkAllSpec)) fnTableOkAllCard

/-- THE TIED CARD OF 'laws.FnTableOk'. -/
def fnTableOkCard : Claim7 := { stood := { row := fnTableOkRow, standIns := [], harness := (true, "3b8e8ff62d51e8fbfa9c5c49418b52677774030f45ec557ad01b655db51bf559"), looks := false }, kinds := [], alts := [], laidByText := true, laidKinds := [.data, .pinned], laidTests := true, laidLooks := .later }
def FnTableOkCardSaid : Prop := Claim7.holds Tryd.pinned (.plain (OpenSpec.ofChange fnTableOkSpec)) fnTableOkCard

/-- THE TIED CARD OF 'laws.FnTableEmpty'. -/
def fnTableEmptyCard : Claim7 := { stood := { row := fnTableEmptyRow, standIns := [], harness := (true, "3b8e8ff62d51e8fbfa9c5c49418b52677774030f45ec557ad01b655db51bf559"), looks := false }, kinds := [], alts := [], laidByText := true, laidKinds := [.data, .pinned], laidTests := true, laidLooks := .later }
def FnTableEmptyCardSaid : Prop := Claim7.holds Tryd.pinned (.plain (OpenSpec.ofChange fnTableEmptySpec)) fnTableEmptyCard

/-- THE TIED CARD OF 'laws.FnUnpin'. -/
def fnUnpinCard : Claim7 := { stood := { row := fnUnpinRow, standIns := [], harness := (true, "3b8e8ff62d51e8fbfa9c5c49418b52677774030f45ec557ad01b655db51bf559"), looks := false }, kinds := [], alts := [], laidByText := true, laidKinds := [.data, .pinned], laidTests := true, laidLooks := .later }
def FnUnpinCardSaid : Prop := Claim7.holds Tryd.pinned (.plain (OpenSpec.ofChange fnUnpinSpec)) fnUnpinCard

/-- THE SECOND FORM's CARD OF 'laws.FnTableCount'. -/
def fnTableCountUptoCard : Claim7 := { stood := { row := fnTableCountUptoRow, standIns := [], harness := (true, "3b8e8ff62d51e8fbfa9c5c49418b52677774030f45ec557ad01b655db51bf559"), looks := false }, kinds := [], alts := [], laidByText := true, laidKinds := [.data, .pinned], laidTests := true, laidLooks := .later }
def FnTableCountUptoCardSaid : Prop := Claim7.holds Tryd.pinned (.plain (OpenSpec.upto fnTableCountSpec)) fnTableCountUptoCard

/-- THE SECOND FORM's CARD OF 'laws.FnExactTableCount'. -/
def fnExactTableCountUptoCard : Claim7 := { stood := { row := fnExactTableCountUptoRow, standIns := [], harness := (true, "3b8e8ff62d51e8fbfa9c5c49418b52677774030f45ec557ad01b655db51bf559"), looks := false }, kinds := [], alts := [], laidByText := true, laidKinds := [.data, .pinned], laidTests := true, laidLooks := .later }
def FnExactTableCountUptoCardSaid : Prop := Claim7.holds Tryd.pinned (.plain (OpenSpec.upto fnExactTableCountSpec)) fnExactTableCountUptoCard

/-- THE SECOND FORM's CARD OF 'laws.FnExactTableOk'. -/
def fnExactTableOkUptoCard : Claim7 := { stood := { row := fnExactTableOkUptoRow, standIns := [], harness := (true, "3b8e8ff62d51e8fbfa9c5c49418b52677774030f45ec557ad01b655db51bf559"), looks := false }, kinds := [], alts := [], laidByText := true, laidKinds := [.data, .pinned], laidTests := true, laidLooks := .later }
def FnExactTableOkUptoCardSaid : Prop := Claim7.holds Tryd.pinned (.plain (OpenSpec.upto fnExactTableOkSpec)) fnExactTableOkUptoCard

/-- THE SECOND FORM's CARD OF 'laws.FnExactTableUnpin'. -/
def fnExactTableUnpinUptoCard : Claim7 := { stood := { row := fnExactTableUnpinUptoRow, standIns := [], harness := (true, "3b8e8ff62d51e8fbfa9c5c49418b52677774030f45ec557ad01b655db51bf559"), looks := false }, kinds := [], alts := [], laidByText := true, laidKinds := [.data, .pinned], laidTests := true, laidLooks := .later }
def FnExactTableUnpinUptoCardSaid : Prop := Claim7.holds Tryd.pinned (.plain (OpenSpec.upto fnExactTableUnpinSpec)) fnExactTableUnpinUptoCard

/-- THE SECOND FORM's CARD OF 'laws.FnTableOkAll'. -/
def fnTableOkAllUptoCard : Claim7 := { stood := { row := fnTableOkAllUptoRow, standIns := [], harness := (true, "3b8e8ff62d51e8fbfa9c5c49418b52677774030f45ec557ad01b655db51bf559"), looks := false }, kinds := [], alts := [], laidByText := true, laidKinds := [.data, .pinned], laidTests := true, laidLooks := .later }
def FnTableOkAllUptoCardSaid : Prop := Claim7.holds Tryd.pinned (.plain (OpenSpec.upto fnTableOkAllSpec)) fnTableOkAllUptoCard

/-- THE SECOND FORM's CARD OF 'laws.FnTableOk'. -/
def fnTableOkUptoCard : Claim7 := { stood := { row := fnTableOkUptoRow, standIns := [], harness := (true, "3b8e8ff62d51e8fbfa9c5c49418b52677774030f45ec557ad01b655db51bf559"), looks := false }, kinds := [], alts := [], laidByText := true, laidKinds := [.data, .pinned], laidTests := true, laidLooks := .later }
def FnTableOkUptoCardSaid : Prop := Claim7.holds Tryd.pinned (.plain (OpenSpec.upto fnTableOkSpec)) fnTableOkUptoCard

/-- THE SECOND FORM's CARD OF 'laws.FnTableEmpty'. -/
def fnTableEmptyUptoCard : Claim7 := { stood := { row := fnTableEmptyUptoRow, standIns := [], harness := (true, "3b8e8ff62d51e8fbfa9c5c49418b52677774030f45ec557ad01b655db51bf559"), looks := false }, kinds := [], alts := [], laidByText := true, laidKinds := [.data, .pinned], laidTests := true, laidLooks := .later }
def FnTableEmptyUptoCardSaid : Prop := Claim7.holds Tryd.pinned (.plain (OpenSpec.upto fnTableEmptySpec)) fnTableEmptyUptoCard

/-- THE SECOND FORM's CARD OF 'laws.FnUnpin'. -/
def fnUnpinUptoCard : Claim7 := { stood := { row := fnUnpinUptoRow, standIns := [], harness := (true, "3b8e8ff62d51e8fbfa9c5c49418b52677774030f45ec557ad01b655db51bf559"), looks := false }, kinds := [], alts := [], laidByText := true, laidKinds := [.data, .pinned], laidTests := true, laidLooks := .later }
def FnUnpinUptoCardSaid : Prop := Claim7.holds Tryd.pinned (.plain (OpenSpec.upto fnUnpinSpec)) fnUnpinUptoCard
end Rows
end Go.Proofs.YtbfjhiacjfbdoaaDoor
