/-
  DERIVED. GIVEN WITH THE SEED: THE CARDS: each row of YtklphfmjdgnpnaaDoorRows.lean that lists a variable, with what it lists TIED to the program's text (the seventh form; the later family's looks); each row that meets fmt, with fmt's text TOLD by the authors' own Lean function (tested against real Go, not proved from fmt's source: count such statements apart). THE CARD IS WHAT COUNTS. Prove the row's statement (the work); the ties are given (YtklphfmjdgnpnaaDoorTie.lean); close each card by the builder's one call (the guide's Derived/Test/ToyasCard.lean, 'card_holds'). Laid BY PROGRAM, IN A SANDBOX (cutbox-door.mjs). By AI agents, Wed Nov 11 2026. No macro, syntax, notation, axiom, sorry.
-/
import Derived.Test.YtklphfmjdgnpnaaDoorRows
import GoSem.ClaimSeven
namespace Go.Proofs.YtklphfmjdgnpnaaDoor
namespace Rows

/-- THE TIED CARD OF 'laws.FnTableCount'. -/
def fnTableCountCard : Claim7 := { stood := { row := fnTableCountRow, standIns := [], harness := (true, "0ce253b3f2d51378f23a7a3db2d4ef8ae7a94fe4d1c4caa6c7ad536ea975acd7"), looks := false }, kinds := [], alts := [], laidByText := true, laidKinds := [.data, .pinned], laidTests := true, laidLooks := .later }
def FnTableCountCardSaid : Prop := Claim7.holds Tryd.pinned (.plain (OpenSpec.ofChange fnTableCountSpec)) fnTableCountCard

/-- THE TIED CARD OF 'laws.FnTableOk'. -/
def fnTableOkCard : Claim7 := { stood := { row := fnTableOkRow, standIns := [], harness := (true, "0ce253b3f2d51378f23a7a3db2d4ef8ae7a94fe4d1c4caa6c7ad536ea975acd7"), looks := false }, kinds := [], alts := [], laidByText := true, laidKinds := [.data, .pinned], laidTests := true, laidLooks := .later }
def FnTableOkCardSaid : Prop := Claim7.holds Tryd.pinned (.plain (OpenSpec.ofChange fnTableOkSpec)) fnTableOkCard

/-- THE TIED CARD OF 'laws.FnTableEmpty'. -/
def fnTableEmptyCard : Claim7 := { stood := { row := fnTableEmptyRow, standIns := [], harness := (true, "0ce253b3f2d51378f23a7a3db2d4ef8ae7a94fe4d1c4caa6c7ad536ea975acd7"), looks := false }, kinds := [], alts := [], laidByText := true, laidKinds := [.data, .pinned], laidTests := true, laidLooks := .later }
def FnTableEmptyCardSaid : Prop := Claim7.holds Tryd.pinned (.plain (OpenSpec.ofChange fnTableEmptySpec)) fnTableEmptyCard

/-- THE TIED CARD OF 'laws.FnUnpin'. -/
def fnUnpinCard : Claim7 := { stood := { row := fnUnpinRow, standIns := [], harness := (true, "0ce253b3f2d51378f23a7a3db2d4ef8ae7a94fe4d1c4caa6c7ad536ea975acd7"), looks := false }, kinds := [], alts := [], laidByText := true, laidKinds := [.data, .pinned], laidTests := true, laidLooks := .later }
def FnUnpinCardSaid : Prop := Claim7.holds Tryd.pinned (.plain (OpenSpec.ofChange fnUnpinSpec)) fnUnpinCard

/-- THE TIED CARD OF 'laws.FnTableSelf'. -/
def fnTableSelfCard : Claim7 := { stood := { row := fnTableSelfRow, standIns := [], harness := (true, "0ce253b3f2d51378f23a7a3db2d4ef8ae7a94fe4d1c4caa6c7ad536ea975acd7"), looks := false }, kinds := [], alts := [], laidByText := true, laidKinds := [.data, .pinned], laidTests := true, laidLooks := .later }
def FnTableSelfCardSaid : Prop := Claim7.holds Tryd.pinned (.plain (OpenSpec.ofChange fnTableSelfSpec)) fnTableSelfCard

/-- THE TIED CARD OF 'laws.FnPinBusy'. -/
def fnPinBusyCard : Claim7 := { stood := { row := fnPinBusyRow, standIns := [], harness := (true, "0ce253b3f2d51378f23a7a3db2d4ef8ae7a94fe4d1c4caa6c7ad536ea975acd7"), looks := false }, kinds := [], alts := [], laidByText := true, laidKinds := [.data, .pinned], laidTests := true, laidLooks := .later }
def FnPinBusyCardSaid : Prop := Claim7.holds Tryd.pinned (.plain (OpenSpec.ofChange fnPinBusySpec)) fnPinBusyCard

/-- THE TIED CARD OF 'laws.FnPinOthers'. -/
def fnPinOthersCard : Claim7 := { stood := { row := fnPinOthersRow, standIns := [], harness := (true, "0ce253b3f2d51378f23a7a3db2d4ef8ae7a94fe4d1c4caa6c7ad536ea975acd7"), looks := false }, kinds := [], alts := [], laidByText := true, laidKinds := [.data, .pinned], laidTests := true, laidLooks := .later }
def FnPinOthersCardSaid : Prop := Claim7.holds Tryd.pinned (.plain (OpenSpec.ofChange fnPinOthersSpec)) fnPinOthersCard

/-- THE TIED CARD OF 'laws.FnPinBad'. -/
def fnPinBadCard : Claim7 := { stood := { row := fnPinBadRow, standIns := [], harness := (true, "0ce253b3f2d51378f23a7a3db2d4ef8ae7a94fe4d1c4caa6c7ad536ea975acd7"), looks := false }, kinds := [], alts := [], laidByText := true, laidKinds := [.data, .pinned], laidTests := true, laidLooks := .later }
def FnPinBadCardSaid : Prop := Claim7.holds Tryd.pinned (.plain (OpenSpec.ofChange fnPinBadSpec)) fnPinBadCard

/-- THE TIED CARD OF 'laws.FnPinBack'. -/
def fnPinBackCard : Claim7 := { stood := { row := fnPinBackRow, standIns := [], harness := (true, "0ce253b3f2d51378f23a7a3db2d4ef8ae7a94fe4d1c4caa6c7ad536ea975acd7"), looks := false }, kinds := [], alts := [], laidByText := true, laidKinds := [.data, .pinned], laidTests := true, laidLooks := .later }
def FnPinBackCardSaid : Prop := Claim7.holds Tryd.pinned (.plain (OpenSpec.ofChange fnPinBackSpec)) fnPinBackCard

/-- THE TIED CARD OF 'laws.FnPin'. -/
def fnPinCard : Claim7 := { stood := { row := fnPinRow, standIns := [], harness := (true, "0ce253b3f2d51378f23a7a3db2d4ef8ae7a94fe4d1c4caa6c7ad536ea975acd7"), looks := false }, kinds := [], alts := [], laidByText := true, laidKinds := [.data, .pinned], laidTests := true, laidLooks := .later }
def FnPinCardSaid : Prop := Claim7.holds Tryd.pinned (.plain (OpenSpec.ofChange fnPinSpec)) fnPinCard

/-- THE TIED CARD OF 'laws.FnExactTablePin'. -/
def fnExactTablePinCard : Claim7 := { stood := { row := fnExactTablePinRow, standIns := [], harness := (true, "0ce253b3f2d51378f23a7a3db2d4ef8ae7a94fe4d1c4caa6c7ad536ea975acd7"), looks := false }, kinds := [], alts := [], laidByText := true, laidKinds := [.data, .pinned], laidTests := true, laidLooks := .later }
def FnExactTablePinCardSaid : Prop := Claim7.holds Tryd.pinned (.plain (OpenSpec.ofChange fnExactTablePinSpec)) fnExactTablePinCard

/-- THE SECOND FORM's CARD OF 'laws.FnTableCount'. -/
def fnTableCountUptoCard : Claim7 := { stood := { row := fnTableCountUptoRow, standIns := [], harness := (true, "0ce253b3f2d51378f23a7a3db2d4ef8ae7a94fe4d1c4caa6c7ad536ea975acd7"), looks := false }, kinds := [], alts := [], laidByText := true, laidKinds := [.data, .pinned], laidTests := true, laidLooks := .later }
def FnTableCountUptoCardSaid : Prop := Claim7.holds Tryd.pinned (.plain (OpenSpec.upto fnTableCountSpec)) fnTableCountUptoCard

/-- THE SECOND FORM's CARD OF 'laws.FnTableOk'. -/
def fnTableOkUptoCard : Claim7 := { stood := { row := fnTableOkUptoRow, standIns := [], harness := (true, "0ce253b3f2d51378f23a7a3db2d4ef8ae7a94fe4d1c4caa6c7ad536ea975acd7"), looks := false }, kinds := [], alts := [], laidByText := true, laidKinds := [.data, .pinned], laidTests := true, laidLooks := .later }
def FnTableOkUptoCardSaid : Prop := Claim7.holds Tryd.pinned (.plain (OpenSpec.upto fnTableOkSpec)) fnTableOkUptoCard

/-- THE SECOND FORM's CARD OF 'laws.FnTableEmpty'. -/
def fnTableEmptyUptoCard : Claim7 := { stood := { row := fnTableEmptyUptoRow, standIns := [], harness := (true, "0ce253b3f2d51378f23a7a3db2d4ef8ae7a94fe4d1c4caa6c7ad536ea975acd7"), looks := false }, kinds := [], alts := [], laidByText := true, laidKinds := [.data, .pinned], laidTests := true, laidLooks := .later }
def FnTableEmptyUptoCardSaid : Prop := Claim7.holds Tryd.pinned (.plain (OpenSpec.upto fnTableEmptySpec)) fnTableEmptyUptoCard

/-- THE SECOND FORM's CARD OF 'laws.FnUnpin'. -/
def fnUnpinUptoCard : Claim7 := { stood := { row := fnUnpinUptoRow, standIns := [], harness := (true, "0ce253b3f2d51378f23a7a3db2d4ef8ae7a94fe4d1c4caa6c7ad536ea975acd7"), looks := false }, kinds := [], alts := [], laidByText := true, laidKinds := [.data, .pinned], laidTests := true, laidLooks := .later }
def FnUnpinUptoCardSaid : Prop := Claim7.holds Tryd.pinned (.plain (OpenSpec.upto fnUnpinSpec)) fnUnpinUptoCard

/-- THE SECOND FORM's CARD OF 'laws.FnTableSelf'. -/
def fnTableSelfUptoCard : Claim7 := { stood := { row := fnTableSelfUptoRow, standIns := [], harness := (true, "0ce253b3f2d51378f23a7a3db2d4ef8ae7a94fe4d1c4caa6c7ad536ea975acd7"), looks := false }, kinds := [], alts := [], laidByText := true, laidKinds := [.data, .pinned], laidTests := true, laidLooks := .later }
def FnTableSelfUptoCardSaid : Prop := Claim7.holds Tryd.pinned (.plain (OpenSpec.upto fnTableSelfSpec)) fnTableSelfUptoCard

/-- THE SECOND FORM's CARD OF 'laws.FnPinBusy'. -/
def fnPinBusyUptoCard : Claim7 := { stood := { row := fnPinBusyUptoRow, standIns := [], harness := (true, "0ce253b3f2d51378f23a7a3db2d4ef8ae7a94fe4d1c4caa6c7ad536ea975acd7"), looks := false }, kinds := [], alts := [], laidByText := true, laidKinds := [.data, .pinned], laidTests := true, laidLooks := .later }
def FnPinBusyUptoCardSaid : Prop := Claim7.holds Tryd.pinned (.plain (OpenSpec.upto fnPinBusySpec)) fnPinBusyUptoCard

/-- THE SECOND FORM's CARD OF 'laws.FnPinOthers'. -/
def fnPinOthersUptoCard : Claim7 := { stood := { row := fnPinOthersUptoRow, standIns := [], harness := (true, "0ce253b3f2d51378f23a7a3db2d4ef8ae7a94fe4d1c4caa6c7ad536ea975acd7"), looks := false }, kinds := [], alts := [], laidByText := true, laidKinds := [.data, .pinned], laidTests := true, laidLooks := .later }
def FnPinOthersUptoCardSaid : Prop := Claim7.holds Tryd.pinned (.plain (OpenSpec.upto fnPinOthersSpec)) fnPinOthersUptoCard

/-- THE SECOND FORM's CARD OF 'laws.FnPinBad'. -/
def fnPinBadUptoCard : Claim7 := { stood := { row := fnPinBadUptoRow, standIns := [], harness := (true, "0ce253b3f2d51378f23a7a3db2d4ef8ae7a94fe4d1c4caa6c7ad536ea975acd7"), looks := false }, kinds := [], alts := [], laidByText := true, laidKinds := [.data, .pinned], laidTests := true, laidLooks := .later }
def FnPinBadUptoCardSaid : Prop := Claim7.holds Tryd.pinned (.plain (OpenSpec.upto fnPinBadSpec)) fnPinBadUptoCard

/-- THE SECOND FORM's CARD OF 'laws.FnPinBack'. -/
def fnPinBackUptoCard : Claim7 := { stood := { row := fnPinBackUptoRow, standIns := [], harness := (true, "0ce253b3f2d51378f23a7a3db2d4ef8ae7a94fe4d1c4caa6c7ad536ea975acd7"), looks := false }, kinds := [], alts := [], laidByText := true, laidKinds := [.data, .pinned], laidTests := true, laidLooks := .later }
def FnPinBackUptoCardSaid : Prop := Claim7.holds Tryd.pinned (.plain (OpenSpec.upto fnPinBackSpec)) fnPinBackUptoCard

/-- THE SECOND FORM's CARD OF 'laws.FnPin'. -/
def fnPinUptoCard : Claim7 := { stood := { row := fnPinUptoRow, standIns := [], harness := (true, "0ce253b3f2d51378f23a7a3db2d4ef8ae7a94fe4d1c4caa6c7ad536ea975acd7"), looks := false }, kinds := [], alts := [], laidByText := true, laidKinds := [.data, .pinned], laidTests := true, laidLooks := .later }
def FnPinUptoCardSaid : Prop := Claim7.holds Tryd.pinned (.plain (OpenSpec.upto fnPinSpec)) fnPinUptoCard

/-- THE SECOND FORM's CARD OF 'laws.FnExactTablePin'. -/
def fnExactTablePinUptoCard : Claim7 := { stood := { row := fnExactTablePinUptoRow, standIns := [], harness := (true, "0ce253b3f2d51378f23a7a3db2d4ef8ae7a94fe4d1c4caa6c7ad536ea975acd7"), looks := false }, kinds := [], alts := [], laidByText := true, laidKinds := [.data, .pinned], laidTests := true, laidLooks := .later }
def FnExactTablePinUptoCardSaid : Prop := Claim7.holds Tryd.pinned (.plain (OpenSpec.upto fnExactTablePinSpec)) fnExactTablePinUptoCard
end Rows
end Go.Proofs.YtklphfmjdgnpnaaDoor
