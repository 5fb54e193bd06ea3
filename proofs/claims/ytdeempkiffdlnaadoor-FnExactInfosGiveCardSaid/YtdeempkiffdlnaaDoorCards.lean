/-
  DERIVED. GIVEN WITH THE SEED: THE CARDS: each row of YtdeempkiffdlnaaDoorRows.lean that lists a variable, with what it lists TIED to the program's text (the seventh form; the later family's looks); each row that meets fmt, with fmt's text TOLD by the authors' own Lean function (tested against real Go, not proved from fmt's source: count such statements apart). THE CARD IS WHAT COUNTS. Prove the row's statement (the work); the ties are given (YtdeempkiffdlnaaDoorTie.lean); close each card by the builder's one call (the guide's Derived/Test/ToyasCard.lean, 'card_holds'). Laid BY PROGRAM, IN A SANDBOX (cutbox-door.mjs). By AI agents, Wed Nov 11 2026. No macro, syntax, notation, axiom, sorry.
-/
import Derived.Test.YtdeempkiffdlnaaDoorRows
import GoSem.ClaimSeven
namespace Go.Proofs.YtdeempkiffdlnaaDoor
namespace Rows

/-- THE TIED CARD OF 'laws.FnInfosPart'. -/
def fnInfosPartCard : Claim7 := { stood := { row := fnInfosPartRow, standIns := [], harness := (true, "c269707804b59615d7adbc4a3857a2ba96cec7c46019f403595049a496464e71"), looks := false }, kinds := [], alts := [], laidByText := true, laidKinds := [.data, .pinned], laidTests := true, laidLooks := .later }
def FnInfosPartCardSaid : Prop := Claim7.holds Tryd.pinned (.plain (OpenSpec.ofChange fnInfosPartSpec)) fnInfosPartCard

/-- THE TIED CARD OF 'laws.FnExactInfosValid'. -/
def fnExactInfosValidCard : Claim7 := { stood := { row := fnExactInfosValidRow, standIns := [], harness := (true, "c269707804b59615d7adbc4a3857a2ba96cec7c46019f403595049a496464e71"), looks := false }, kinds := [], alts := [], laidByText := true, laidKinds := [.data, .pinned], laidTests := true, laidLooks := .later }
def FnExactInfosValidCardSaid : Prop := Claim7.holds Tryd.pinned (.plain (OpenSpec.ofChange fnExactInfosValidSpec)) fnExactInfosValidCard

/-- THE TIED CARD OF 'laws.FnInfosFree'. -/
def fnInfosFreeCard : Claim7 := { stood := { row := fnInfosFreeRow, standIns := [], harness := (true, "c269707804b59615d7adbc4a3857a2ba96cec7c46019f403595049a496464e71"), looks := false }, kinds := [], alts := [], laidByText := true, laidKinds := [.data, .pinned], laidTests := true, laidLooks := .later }
def FnInfosFreeCardSaid : Prop := Claim7.holds Tryd.pinned (.plain (OpenSpec.ofChange fnInfosFreeSpec)) fnInfosFreeCard

/-- THE TIED CARD OF 'laws.FnExactInfosFree'. -/
def fnExactInfosFreeCard : Claim7 := { stood := { row := fnExactInfosFreeRow, standIns := [], harness := (true, "c269707804b59615d7adbc4a3857a2ba96cec7c46019f403595049a496464e71"), looks := false }, kinds := [], alts := [], laidByText := true, laidKinds := [.data, .pinned], laidTests := true, laidLooks := .later }
def FnExactInfosFreeCardSaid : Prop := Claim7.holds Tryd.pinned (.plain (OpenSpec.ofChange fnExactInfosFreeSpec)) fnExactInfosFreeCard

/-- THE TIED CARD OF 'laws.FnInfosTakeGive'. -/
def fnInfosTakeGiveCard : Claim7 := { stood := { row := fnInfosTakeGiveRow, standIns := [], harness := (true, "c269707804b59615d7adbc4a3857a2ba96cec7c46019f403595049a496464e71"), looks := false }, kinds := [], alts := [], laidByText := true, laidKinds := [.data, .pinned], laidTests := true, laidLooks := .later }
def FnInfosTakeGiveCardSaid : Prop := Claim7.holds Tryd.pinned (.plain (OpenSpec.ofChange fnInfosTakeGiveSpec)) fnInfosTakeGiveCard

/-- THE TIED CARD OF 'laws.FnInfosGive'. -/
def fnInfosGiveCard : Claim7 := { stood := { row := fnInfosGiveRow, standIns := [], harness := (true, "c269707804b59615d7adbc4a3857a2ba96cec7c46019f403595049a496464e71"), looks := false }, kinds := [], alts := [], laidByText := true, laidKinds := [.data, .pinned], laidTests := true, laidLooks := .later }
def FnInfosGiveCardSaid : Prop := Claim7.holds Tryd.pinned (.plain (OpenSpec.ofChange fnInfosGiveSpec)) fnInfosGiveCard

/-- THE TIED CARD OF 'laws.FnExactInfosGive'. -/
def fnExactInfosGiveCard : Claim7 := { stood := { row := fnExactInfosGiveRow, standIns := [], harness := (true, "c269707804b59615d7adbc4a3857a2ba96cec7c46019f403595049a496464e71"), looks := false }, kinds := [], alts := [], laidByText := true, laidKinds := [.data, .pinned], laidTests := true, laidLooks := .later }
def FnExactInfosGiveCardSaid : Prop := Claim7.holds Tryd.pinned (.plain (OpenSpec.ofChange fnExactInfosGiveSpec)) fnExactInfosGiveCard

/-- THE TIED CARD OF 'laws.FnInfosTake'. -/
def fnInfosTakeCard : Claim7 := { stood := { row := fnInfosTakeRow, standIns := [], harness := (true, "c269707804b59615d7adbc4a3857a2ba96cec7c46019f403595049a496464e71"), looks := false }, kinds := [], alts := [], laidByText := true, laidKinds := [.data, .pinned], laidTests := true, laidLooks := .later }
def FnInfosTakeCardSaid : Prop := Claim7.holds Tryd.pinned (.plain (OpenSpec.ofChange fnInfosTakeSpec)) fnInfosTakeCard

/-- THE TIED CARD OF 'laws.FnInfosTakeNone'. -/
def fnInfosTakeNoneCard : Claim7 := { stood := { row := fnInfosTakeNoneRow, standIns := [], harness := (true, "c269707804b59615d7adbc4a3857a2ba96cec7c46019f403595049a496464e71"), looks := false }, kinds := [], alts := [], laidByText := true, laidKinds := [.data, .pinned], laidTests := true, laidLooks := .later }
def FnInfosTakeNoneCardSaid : Prop := Claim7.holds Tryd.pinned (.plain (OpenSpec.ofChange fnInfosTakeNoneSpec)) fnInfosTakeNoneCard

/-- THE TIED CARD OF 'laws.FnExactInfosTake'. -/
def fnExactInfosTakeCard : Claim7 := { stood := { row := fnExactInfosTakeRow, standIns := [], harness := (true, "c269707804b59615d7adbc4a3857a2ba96cec7c46019f403595049a496464e71"), looks := false }, kinds := [], alts := [], laidByText := true, laidKinds := [.data, .pinned], laidTests := true, laidLooks := .later }
def FnExactInfosTakeCardSaid : Prop := Claim7.holds Tryd.pinned (.plain (OpenSpec.ofChange fnExactInfosTakeSpec)) fnExactInfosTakeCard

/-- THE SECOND FORM's CARD OF 'laws.FnInfosPart'. -/
def fnInfosPartUptoCard : Claim7 := { stood := { row := fnInfosPartUptoRow, standIns := [], harness := (true, "c269707804b59615d7adbc4a3857a2ba96cec7c46019f403595049a496464e71"), looks := false }, kinds := [], alts := [], laidByText := true, laidKinds := [.data, .pinned], laidTests := true, laidLooks := .later }
def FnInfosPartUptoCardSaid : Prop := Claim7.holds Tryd.pinned (.plain (OpenSpec.upto fnInfosPartSpec)) fnInfosPartUptoCard

/-- THE SECOND FORM's CARD OF 'laws.FnExactInfosValid'. -/
def fnExactInfosValidUptoCard : Claim7 := { stood := { row := fnExactInfosValidUptoRow, standIns := [], harness := (true, "c269707804b59615d7adbc4a3857a2ba96cec7c46019f403595049a496464e71"), looks := false }, kinds := [], alts := [], laidByText := true, laidKinds := [.data, .pinned], laidTests := true, laidLooks := .later }
def FnExactInfosValidUptoCardSaid : Prop := Claim7.holds Tryd.pinned (.plain (OpenSpec.upto fnExactInfosValidSpec)) fnExactInfosValidUptoCard

/-- THE SECOND FORM's CARD OF 'laws.FnInfosFree'. -/
def fnInfosFreeUptoCard : Claim7 := { stood := { row := fnInfosFreeUptoRow, standIns := [], harness := (true, "c269707804b59615d7adbc4a3857a2ba96cec7c46019f403595049a496464e71"), looks := false }, kinds := [], alts := [], laidByText := true, laidKinds := [.data, .pinned], laidTests := true, laidLooks := .later }
def FnInfosFreeUptoCardSaid : Prop := Claim7.holds Tryd.pinned (.plain (OpenSpec.upto fnInfosFreeSpec)) fnInfosFreeUptoCard

/-- THE SECOND FORM's CARD OF 'laws.FnExactInfosFree'. -/
def fnExactInfosFreeUptoCard : Claim7 := { stood := { row := fnExactInfosFreeUptoRow, standIns := [], harness := (true, "c269707804b59615d7adbc4a3857a2ba96cec7c46019f403595049a496464e71"), looks := false }, kinds := [], alts := [], laidByText := true, laidKinds := [.data, .pinned], laidTests := true, laidLooks := .later }
def FnExactInfosFreeUptoCardSaid : Prop := Claim7.holds Tryd.pinned (.plain (OpenSpec.upto fnExactInfosFreeSpec)) fnExactInfosFreeUptoCard

/-- THE SECOND FORM's CARD OF 'laws.FnInfosTakeGive'. -/
def fnInfosTakeGiveUptoCard : Claim7 := { stood := { row := fnInfosTakeGiveUptoRow, standIns := [], harness := (true, "c269707804b59615d7adbc4a3857a2ba96cec7c46019f403595049a496464e71"), looks := false }, kinds := [], alts := [], laidByText := true, laidKinds := [.data, .pinned], laidTests := true, laidLooks := .later }
def FnInfosTakeGiveUptoCardSaid : Prop := Claim7.holds Tryd.pinned (.plain (OpenSpec.upto fnInfosTakeGiveSpec)) fnInfosTakeGiveUptoCard

/-- THE SECOND FORM's CARD OF 'laws.FnInfosGive'. -/
def fnInfosGiveUptoCard : Claim7 := { stood := { row := fnInfosGiveUptoRow, standIns := [], harness := (true, "c269707804b59615d7adbc4a3857a2ba96cec7c46019f403595049a496464e71"), looks := false }, kinds := [], alts := [], laidByText := true, laidKinds := [.data, .pinned], laidTests := true, laidLooks := .later }
def FnInfosGiveUptoCardSaid : Prop := Claim7.holds Tryd.pinned (.plain (OpenSpec.upto fnInfosGiveSpec)) fnInfosGiveUptoCard

/-- THE SECOND FORM's CARD OF 'laws.FnExactInfosGive'. -/
def fnExactInfosGiveUptoCard : Claim7 := { stood := { row := fnExactInfosGiveUptoRow, standIns := [], harness := (true, "c269707804b59615d7adbc4a3857a2ba96cec7c46019f403595049a496464e71"), looks := false }, kinds := [], alts := [], laidByText := true, laidKinds := [.data, .pinned], laidTests := true, laidLooks := .later }
def FnExactInfosGiveUptoCardSaid : Prop := Claim7.holds Tryd.pinned (.plain (OpenSpec.upto fnExactInfosGiveSpec)) fnExactInfosGiveUptoCard

/-- THE SECOND FORM's CARD OF 'laws.FnInfosTake'. -/
def fnInfosTakeUptoCard : Claim7 := { stood := { row := fnInfosTakeUptoRow, standIns := [], harness := (true, "c269707804b59615d7adbc4a3857a2ba96cec7c46019f403595049a496464e71"), looks := false }, kinds := [], alts := [], laidByText := true, laidKinds := [.data, .pinned], laidTests := true, laidLooks := .later }
def FnInfosTakeUptoCardSaid : Prop := Claim7.holds Tryd.pinned (.plain (OpenSpec.upto fnInfosTakeSpec)) fnInfosTakeUptoCard

/-- THE SECOND FORM's CARD OF 'laws.FnInfosTakeNone'. -/
def fnInfosTakeNoneUptoCard : Claim7 := { stood := { row := fnInfosTakeNoneUptoRow, standIns := [], harness := (true, "c269707804b59615d7adbc4a3857a2ba96cec7c46019f403595049a496464e71"), looks := false }, kinds := [], alts := [], laidByText := true, laidKinds := [.data, .pinned], laidTests := true, laidLooks := .later }
def FnInfosTakeNoneUptoCardSaid : Prop := Claim7.holds Tryd.pinned (.plain (OpenSpec.upto fnInfosTakeNoneSpec)) fnInfosTakeNoneUptoCard

/-- THE SECOND FORM's CARD OF 'laws.FnExactInfosTake'. -/
def fnExactInfosTakeUptoCard : Claim7 := { stood := { row := fnExactInfosTakeUptoRow, standIns := [], harness := (true, "c269707804b59615d7adbc4a3857a2ba96cec7c46019f403595049a496464e71"), looks := false }, kinds := [], alts := [], laidByText := true, laidKinds := [.data, .pinned], laidTests := true, laidLooks := .later }
def FnExactInfosTakeUptoCardSaid : Prop := Claim7.holds Tryd.pinned (.plain (OpenSpec.upto fnExactInfosTakeSpec)) fnExactInfosTakeUptoCard
end Rows
end Go.Proofs.YtdeempkiffdlnaaDoor
