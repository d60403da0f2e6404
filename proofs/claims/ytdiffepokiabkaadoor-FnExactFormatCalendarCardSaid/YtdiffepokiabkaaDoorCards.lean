/-
  DERIVED. GIVEN WITH THE SEED: THE CARDS: each row of YtdiffepokiabkaaDoorRows.lean that lists a variable, with what it lists TIED to the program's text (the seventh form; the later family's looks); each row that meets fmt, with fmt's text TOLD by the authors' own Lean function (tested against real Go, not proved from fmt's source: count such statements apart). THE CARD IS WHAT COUNTS. Prove the row's statement (the work); the ties are given (YtdiffepokiabkaaDoorTie.lean); close each card by the builder's one call (the guide's Derived/Test/ToyasCard.lean, 'card_holds'). Laid BY PROGRAM, IN A SANDBOX (cutbox-door.mjs). By AI agents, Wed Nov 11 2026. No macro, syntax, notation, axiom, sorry.
-/
import Derived.Test.YtdiffepokiabkaaDoorRows
import GoSem.ClaimSeven
namespace Go.Proofs.YtdiffepokiabkaaDoor
namespace Rows

/-- THE TIED CARD OF 'laws.FnExactParseNetwork'. -/
def fnExactParseNetworkCard : Claim7 := { stood := { row := fnExactParseNetworkRow, standIns := [], harness := (true, "bd21a94a45979862f5d0a1679aa9dce316fedd93b96fc0213e705a6ccc5f5040"), looks := false }, kinds := [], alts := [], laidByText := true, laidKinds := [.data, .pinned], laidTests := true, laidLooks := .later }
def FnExactParseNetworkCardSaid : Prop := Claim7.holds Tryd.pinned (.plain (OpenSpec.ofChange fnExactParseNetworkSpec)) fnExactParseNetworkCard

/-- THE TIED CARD OF 'laws.FnExactParseTimetable'. -/
def fnExactParseTimetableCard : Claim7 := { stood := { row := fnExactParseTimetableRow, standIns := [], harness := (true, "bd21a94a45979862f5d0a1679aa9dce316fedd93b96fc0213e705a6ccc5f5040"), looks := false }, kinds := [], alts := [], laidByText := true, laidKinds := [.data, .pinned], laidTests := true, laidLooks := .later }
def FnExactParseTimetableCardSaid : Prop := Claim7.holds Tryd.pinned (.plain (OpenSpec.ofChange fnExactParseTimetableSpec)) fnExactParseTimetableCard

/-- THE TIED CARD OF 'laws.FnExactFormatCalendar'. -/
def fnExactFormatCalendarCard : Claim7 := { stood := { row := fnExactFormatCalendarRow, standIns := [], harness := (true, "bd21a94a45979862f5d0a1679aa9dce316fedd93b96fc0213e705a6ccc5f5040"), looks := false }, kinds := [], alts := [], laidByText := true, laidKinds := [.data, .data, .data], laidTests := true, laidLooks := .later }
def FnExactFormatCalendarCardSaid : Prop := Claim7.holds Tryd.pinned (.plain (OpenSpec.ofChange fnExactFormatCalendarSpec)) fnExactFormatCalendarCard

/-- THE TIED CARD OF 'laws.FnExactFormatTimetable'. -/
def fnExactFormatTimetableCard : Claim7 := { stood := { row := fnExactFormatTimetableRow, standIns := [], harness := (true, "bd21a94a45979862f5d0a1679aa9dce316fedd93b96fc0213e705a6ccc5f5040"), looks := false }, kinds := [], alts := [], laidByText := true, laidKinds := [.data, .data, .data], laidTests := true, laidLooks := .later }
def FnExactFormatTimetableCardSaid : Prop := Claim7.holds Tryd.pinned (.plain (OpenSpec.ofChange fnExactFormatTimetableSpec)) fnExactFormatTimetableCard

/-- THE TIED CARD OF 'laws.FnExactSameText'. -/
def fnExactSameTextCard : Claim7 := { stood := { row := fnExactSameTextRow, standIns := [], harness := (true, "bd21a94a45979862f5d0a1679aa9dce316fedd93b96fc0213e705a6ccc5f5040"), looks := false }, kinds := [], alts := [], laidByText := true, laidKinds := [.data, .data, .data], laidTests := true, laidLooks := .later }
def FnExactSameTextCardSaid : Prop := Claim7.holds Tryd.pinned (.plain (OpenSpec.ofChange fnExactSameTextSpec)) fnExactSameTextCard

/-- THE SECOND FORM's CARD OF 'laws.FnExactParseNetwork'. -/
def fnExactParseNetworkUptoCard : Claim7 := { stood := { row := fnExactParseNetworkUptoRow, standIns := [], harness := (true, "bd21a94a45979862f5d0a1679aa9dce316fedd93b96fc0213e705a6ccc5f5040"), looks := false }, kinds := [], alts := [], laidByText := true, laidKinds := [.data, .pinned], laidTests := true, laidLooks := .later }
def FnExactParseNetworkUptoCardSaid : Prop := Claim7.holds Tryd.pinned (.plain (OpenSpec.upto fnExactParseNetworkSpec)) fnExactParseNetworkUptoCard

/-- THE SECOND FORM's CARD OF 'laws.FnExactParseTimetable'. -/
def fnExactParseTimetableUptoCard : Claim7 := { stood := { row := fnExactParseTimetableUptoRow, standIns := [], harness := (true, "bd21a94a45979862f5d0a1679aa9dce316fedd93b96fc0213e705a6ccc5f5040"), looks := false }, kinds := [], alts := [], laidByText := true, laidKinds := [.data, .pinned], laidTests := true, laidLooks := .later }
def FnExactParseTimetableUptoCardSaid : Prop := Claim7.holds Tryd.pinned (.plain (OpenSpec.upto fnExactParseTimetableSpec)) fnExactParseTimetableUptoCard

/-- THE SECOND FORM's CARD OF 'laws.FnExactFormatCalendar'. -/
def fnExactFormatCalendarUptoCard : Claim7 := { stood := { row := fnExactFormatCalendarUptoRow, standIns := [], harness := (true, "bd21a94a45979862f5d0a1679aa9dce316fedd93b96fc0213e705a6ccc5f5040"), looks := false }, kinds := [], alts := [], laidByText := true, laidKinds := [.data, .data, .data], laidTests := true, laidLooks := .later }
def FnExactFormatCalendarUptoCardSaid : Prop := Claim7.holds Tryd.pinned (.plain (OpenSpec.upto fnExactFormatCalendarSpec)) fnExactFormatCalendarUptoCard

/-- THE SECOND FORM's CARD OF 'laws.FnExactFormatTimetable'. -/
def fnExactFormatTimetableUptoCard : Claim7 := { stood := { row := fnExactFormatTimetableUptoRow, standIns := [], harness := (true, "bd21a94a45979862f5d0a1679aa9dce316fedd93b96fc0213e705a6ccc5f5040"), looks := false }, kinds := [], alts := [], laidByText := true, laidKinds := [.data, .data, .data], laidTests := true, laidLooks := .later }
def FnExactFormatTimetableUptoCardSaid : Prop := Claim7.holds Tryd.pinned (.plain (OpenSpec.upto fnExactFormatTimetableSpec)) fnExactFormatTimetableUptoCard

/-- THE SECOND FORM's CARD OF 'laws.FnExactSameText'. -/
def fnExactSameTextUptoCard : Claim7 := { stood := { row := fnExactSameTextUptoRow, standIns := [], harness := (true, "bd21a94a45979862f5d0a1679aa9dce316fedd93b96fc0213e705a6ccc5f5040"), looks := false }, kinds := [], alts := [], laidByText := true, laidKinds := [.data, .data, .data], laidTests := true, laidLooks := .later }
def FnExactSameTextUptoCardSaid : Prop := Claim7.holds Tryd.pinned (.plain (OpenSpec.upto fnExactSameTextSpec)) fnExactSameTextUptoCard
end Rows
end Go.Proofs.YtdiffepokiabkaaDoor
