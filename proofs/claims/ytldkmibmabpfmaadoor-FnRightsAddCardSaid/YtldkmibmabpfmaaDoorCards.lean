/-
  DERIVED. GIVEN WITH THE SEED: THE CARDS: each row of YtldkmibmabpfmaaDoorRows.lean that lists a variable, with what it lists TIED to the program's text (the seventh form; the later family's looks); each row that meets fmt, with fmt's text TOLD by the authors' own Lean function (tested against real Go, not proved from fmt's source: count such statements apart). THE CARD IS WHAT COUNTS. Prove the row's statement (the work); the ties are given (YtldkmibmabpfmaaDoorTie.lean); close each card by the builder's one call (the guide's Derived/Test/ToyasCard.lean, 'card_holds'). Laid BY PROGRAM, IN A SANDBOX (cutbox-door.mjs). By AI agents, Wed Nov 11 2026. No macro, syntax, notation, axiom, sorry.
-/
import Derived.Test.YtldkmibmabpfmaaDoorRows
import GoSem.ClaimSeven
namespace Go.Proofs.YtldkmibmabpfmaaDoor
namespace Rows

/-- THE TIED CARD OF 'laws.FnRightCoversTwo'. -/
def fnRightCoversTwoCard : Claim7 := { stood := { row := fnRightCoversTwoRow, standIns := [], harness := (true, "884ca641043f4be65195c69b3b74b2d084195fe8b9d98228965a585b44a44d08"), looks := false }, kinds := [], alts := [], laidByText := true, laidKinds := [.data, .pinned], laidTests := true, laidLooks := .later }
def FnRightCoversTwoCardSaid : Prop := Claim7.holds Tryd.pinned (.plain (OpenSpec.ofChange fnRightCoversTwoSpec)) fnRightCoversTwoCard

/-- THE TIED CARD OF 'laws.FnRightsPart'. -/
def fnRightsPartCard : Claim7 := { stood := { row := fnRightsPartRow, standIns := [], harness := (true, "884ca641043f4be65195c69b3b74b2d084195fe8b9d98228965a585b44a44d08"), looks := false }, kinds := [], alts := [], laidByText := true, laidKinds := [.data, .pinned], laidTests := true, laidLooks := .later }
def FnRightsPartCardSaid : Prop := Claim7.holds Tryd.pinned (.plain (OpenSpec.ofChange fnRightsPartSpec)) fnRightsPartCard

/-- THE TIED CARD OF 'laws.FnExactRightsMay'. -/
def fnExactRightsMayCard : Claim7 := { stood := { row := fnExactRightsMayRow, standIns := [], harness := (true, "884ca641043f4be65195c69b3b74b2d084195fe8b9d98228965a585b44a44d08"), looks := false }, kinds := [], alts := [], laidByText := true, laidKinds := [.data, .pinned], laidTests := true, laidLooks := .later }
def FnExactRightsMayCardSaid : Prop := Claim7.holds Tryd.pinned (.plain (OpenSpec.ofChange fnExactRightsMaySpec)) fnExactRightsMayCard

/-- THE TIED CARD OF 'laws.FnRightsMayLong'. -/
def fnRightsMayLongCard : Claim7 := { stood := { row := fnRightsMayLongRow, standIns := [], harness := (true, "884ca641043f4be65195c69b3b74b2d084195fe8b9d98228965a585b44a44d08"), looks := false }, kinds := [], alts := [], laidByText := true, laidKinds := [.data, .pinned], laidTests := true, laidLooks := .later }
def FnRightsMayLongCardSaid : Prop := Claim7.holds Tryd.pinned (.plain (OpenSpec.ofChange fnRightsMayLongSpec)) fnRightsMayLongCard

/-- THE TIED CARD OF 'laws.FnRightsMay'. -/
def fnRightsMayCard : Claim7 := { stood := { row := fnRightsMayRow, standIns := [], harness := (true, "884ca641043f4be65195c69b3b74b2d084195fe8b9d98228965a585b44a44d08"), looks := false }, kinds := [], alts := [], laidByText := true, laidKinds := [.data, .pinned], laidTests := true, laidLooks := .later }
def FnRightsMayCardSaid : Prop := Claim7.holds Tryd.pinned (.plain (OpenSpec.ofChange fnRightsMaySpec)) fnRightsMayCard

/-- THE TIED CARD OF 'laws.FnExactRightsDrop'. -/
def fnExactRightsDropCard : Claim7 := { stood := { row := fnExactRightsDropRow, standIns := [], harness := (true, "884ca641043f4be65195c69b3b74b2d084195fe8b9d98228965a585b44a44d08"), looks := false }, kinds := [], alts := [], laidByText := true, laidKinds := [.data, .pinned], laidTests := true, laidLooks := .later }
def FnExactRightsDropCardSaid : Prop := Claim7.holds Tryd.pinned (.plain (OpenSpec.ofChange fnExactRightsDropSpec)) fnExactRightsDropCard

/-- THE TIED CARD OF 'laws.FnRightsDrop'. -/
def fnRightsDropCard : Claim7 := { stood := { row := fnRightsDropRow, standIns := [], harness := (true, "884ca641043f4be65195c69b3b74b2d084195fe8b9d98228965a585b44a44d08"), looks := false }, kinds := [], alts := [], laidByText := true, laidKinds := [.data, .pinned], laidTests := true, laidLooks := .later }
def FnRightsDropCardSaid : Prop := Claim7.holds Tryd.pinned (.plain (OpenSpec.ofChange fnRightsDropSpec)) fnRightsDropCard

/-- THE TIED CARD OF 'laws.FnExactRightsAdd'. -/
def fnExactRightsAddCard : Claim7 := { stood := { row := fnExactRightsAddRow, standIns := [], harness := (true, "884ca641043f4be65195c69b3b74b2d084195fe8b9d98228965a585b44a44d08"), looks := false }, kinds := [], alts := [], laidByText := true, laidKinds := [.data, .pinned], laidTests := true, laidLooks := .later }
def FnExactRightsAddCardSaid : Prop := Claim7.holds Tryd.pinned (.plain (OpenSpec.ofChange fnExactRightsAddSpec)) fnExactRightsAddCard

/-- THE TIED CARD OF 'laws.FnRightsAddFull'. -/
def fnRightsAddFullCard : Claim7 := { stood := { row := fnRightsAddFullRow, standIns := [], harness := (true, "884ca641043f4be65195c69b3b74b2d084195fe8b9d98228965a585b44a44d08"), looks := false }, kinds := [], alts := [], laidByText := true, laidKinds := [.data, .pinned], laidTests := true, laidLooks := .later }
def FnRightsAddFullCardSaid : Prop := Claim7.holds Tryd.pinned (.plain (OpenSpec.ofChange fnRightsAddFullSpec)) fnRightsAddFullCard

/-- THE TIED CARD OF 'laws.FnRightsAdd'. -/
def fnRightsAddCard : Claim7 := { stood := { row := fnRightsAddRow, standIns := [], harness := (true, "884ca641043f4be65195c69b3b74b2d084195fe8b9d98228965a585b44a44d08"), looks := false }, kinds := [], alts := [], laidByText := true, laidKinds := [.data, .pinned], laidTests := true, laidLooks := .later }
def FnRightsAddCardSaid : Prop := Claim7.holds Tryd.pinned (.plain (OpenSpec.ofChange fnRightsAddSpec)) fnRightsAddCard

/-- THE SECOND FORM's CARD OF 'laws.FnRightCoversTwo'. -/
def fnRightCoversTwoUptoCard : Claim7 := { stood := { row := fnRightCoversTwoUptoRow, standIns := [], harness := (true, "884ca641043f4be65195c69b3b74b2d084195fe8b9d98228965a585b44a44d08"), looks := false }, kinds := [], alts := [], laidByText := true, laidKinds := [.data, .pinned], laidTests := true, laidLooks := .later }
def FnRightCoversTwoUptoCardSaid : Prop := Claim7.holds Tryd.pinned (.plain (OpenSpec.upto fnRightCoversTwoSpec)) fnRightCoversTwoUptoCard

/-- THE SECOND FORM's CARD OF 'laws.FnRightsPart'. -/
def fnRightsPartUptoCard : Claim7 := { stood := { row := fnRightsPartUptoRow, standIns := [], harness := (true, "884ca641043f4be65195c69b3b74b2d084195fe8b9d98228965a585b44a44d08"), looks := false }, kinds := [], alts := [], laidByText := true, laidKinds := [.data, .pinned], laidTests := true, laidLooks := .later }
def FnRightsPartUptoCardSaid : Prop := Claim7.holds Tryd.pinned (.plain (OpenSpec.upto fnRightsPartSpec)) fnRightsPartUptoCard

/-- THE SECOND FORM's CARD OF 'laws.FnExactRightsMay'. -/
def fnExactRightsMayUptoCard : Claim7 := { stood := { row := fnExactRightsMayUptoRow, standIns := [], harness := (true, "884ca641043f4be65195c69b3b74b2d084195fe8b9d98228965a585b44a44d08"), looks := false }, kinds := [], alts := [], laidByText := true, laidKinds := [.data, .pinned], laidTests := true, laidLooks := .later }
def FnExactRightsMayUptoCardSaid : Prop := Claim7.holds Tryd.pinned (.plain (OpenSpec.upto fnExactRightsMaySpec)) fnExactRightsMayUptoCard

/-- THE SECOND FORM's CARD OF 'laws.FnRightsMayLong'. -/
def fnRightsMayLongUptoCard : Claim7 := { stood := { row := fnRightsMayLongUptoRow, standIns := [], harness := (true, "884ca641043f4be65195c69b3b74b2d084195fe8b9d98228965a585b44a44d08"), looks := false }, kinds := [], alts := [], laidByText := true, laidKinds := [.data, .pinned], laidTests := true, laidLooks := .later }
def FnRightsMayLongUptoCardSaid : Prop := Claim7.holds Tryd.pinned (.plain (OpenSpec.upto fnRightsMayLongSpec)) fnRightsMayLongUptoCard

/-- THE SECOND FORM's CARD OF 'laws.FnRightsMay'. -/
def fnRightsMayUptoCard : Claim7 := { stood := { row := fnRightsMayUptoRow, standIns := [], harness := (true, "884ca641043f4be65195c69b3b74b2d084195fe8b9d98228965a585b44a44d08"), looks := false }, kinds := [], alts := [], laidByText := true, laidKinds := [.data, .pinned], laidTests := true, laidLooks := .later }
def FnRightsMayUptoCardSaid : Prop := Claim7.holds Tryd.pinned (.plain (OpenSpec.upto fnRightsMaySpec)) fnRightsMayUptoCard

/-- THE SECOND FORM's CARD OF 'laws.FnExactRightsDrop'. -/
def fnExactRightsDropUptoCard : Claim7 := { stood := { row := fnExactRightsDropUptoRow, standIns := [], harness := (true, "884ca641043f4be65195c69b3b74b2d084195fe8b9d98228965a585b44a44d08"), looks := false }, kinds := [], alts := [], laidByText := true, laidKinds := [.data, .pinned], laidTests := true, laidLooks := .later }
def FnExactRightsDropUptoCardSaid : Prop := Claim7.holds Tryd.pinned (.plain (OpenSpec.upto fnExactRightsDropSpec)) fnExactRightsDropUptoCard

/-- THE SECOND FORM's CARD OF 'laws.FnRightsDrop'. -/
def fnRightsDropUptoCard : Claim7 := { stood := { row := fnRightsDropUptoRow, standIns := [], harness := (true, "884ca641043f4be65195c69b3b74b2d084195fe8b9d98228965a585b44a44d08"), looks := false }, kinds := [], alts := [], laidByText := true, laidKinds := [.data, .pinned], laidTests := true, laidLooks := .later }
def FnRightsDropUptoCardSaid : Prop := Claim7.holds Tryd.pinned (.plain (OpenSpec.upto fnRightsDropSpec)) fnRightsDropUptoCard

/-- THE SECOND FORM's CARD OF 'laws.FnExactRightsAdd'. -/
def fnExactRightsAddUptoCard : Claim7 := { stood := { row := fnExactRightsAddUptoRow, standIns := [], harness := (true, "884ca641043f4be65195c69b3b74b2d084195fe8b9d98228965a585b44a44d08"), looks := false }, kinds := [], alts := [], laidByText := true, laidKinds := [.data, .pinned], laidTests := true, laidLooks := .later }
def FnExactRightsAddUptoCardSaid : Prop := Claim7.holds Tryd.pinned (.plain (OpenSpec.upto fnExactRightsAddSpec)) fnExactRightsAddUptoCard

/-- THE SECOND FORM's CARD OF 'laws.FnRightsAddFull'. -/
def fnRightsAddFullUptoCard : Claim7 := { stood := { row := fnRightsAddFullUptoRow, standIns := [], harness := (true, "884ca641043f4be65195c69b3b74b2d084195fe8b9d98228965a585b44a44d08"), looks := false }, kinds := [], alts := [], laidByText := true, laidKinds := [.data, .pinned], laidTests := true, laidLooks := .later }
def FnRightsAddFullUptoCardSaid : Prop := Claim7.holds Tryd.pinned (.plain (OpenSpec.upto fnRightsAddFullSpec)) fnRightsAddFullUptoCard

/-- THE SECOND FORM's CARD OF 'laws.FnRightsAdd'. -/
def fnRightsAddUptoCard : Claim7 := { stood := { row := fnRightsAddUptoRow, standIns := [], harness := (true, "884ca641043f4be65195c69b3b74b2d084195fe8b9d98228965a585b44a44d08"), looks := false }, kinds := [], alts := [], laidByText := true, laidKinds := [.data, .pinned], laidTests := true, laidLooks := .later }
def FnRightsAddUptoCardSaid : Prop := Claim7.holds Tryd.pinned (.plain (OpenSpec.upto fnRightsAddSpec)) fnRightsAddUptoCard
end Rows
end Go.Proofs.YtldkmibmabpfmaaDoor
