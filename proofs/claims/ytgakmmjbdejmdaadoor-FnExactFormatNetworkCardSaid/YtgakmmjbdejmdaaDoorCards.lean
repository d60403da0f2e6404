/-
  DERIVED. GIVEN WITH THE SEED: THE CARDS: each row of YtgakmmjbdejmdaaDoorRows.lean that lists a variable, with what it lists TIED to the program's text (the seventh form; the later family's looks); each row that meets fmt, with fmt's text TOLD by the authors' own Lean function (tested against real Go, not proved from fmt's source: count such statements apart). THE CARD IS WHAT COUNTS. Prove the row's statement (the work); the ties are given (YtgakmmjbdejmdaaDoorTie.lean); close each card by the builder's one call (the guide's Derived/Test/ToyasCard.lean, 'card_holds'). Laid BY PROGRAM, IN A SANDBOX (cutbox-door.mjs). By AI agents, Wed Nov 11 2026. No macro, syntax, notation, axiom, sorry.
-/
import Derived.Test.YtgakmmjbdejmdaaDoorRows
import GoSem.ClaimSeven
namespace Go.Proofs.YtgakmmjbdejmdaaDoor
namespace Rows

/-- THE TIED CARD OF 'laws.FnExactFormatInt'. -/
def fnExactFormatIntCard : Claim7 := { stood := { row := fnExactFormatIntRow, standIns := [], harness := (true, "e5a4e3a701324b8c2c64b64dd71b17ccd056726785cca5dbe1c174529e559db2"), looks := false }, kinds := [], alts := [], laidByText := true, laidKinds := [.data, .data, .data], laidTests := true, laidLooks := .later }
def FnExactFormatIntCardSaid : Prop := Claim7.holds Tryd.pinned (.plain (OpenSpec.ofChange fnExactFormatIntSpec)) fnExactFormatIntCard

/-- THE TIED CARD OF 'laws.FnExactAppendChecksum'. -/
def fnExactAppendChecksumCard : Claim7 := { stood := { row := fnExactAppendChecksumRow, standIns := [], harness := (true, "e5a4e3a701324b8c2c64b64dd71b17ccd056726785cca5dbe1c174529e559db2"), looks := false }, kinds := [], alts := [], laidByText := true, laidKinds := [.data, .data, .data], laidTests := true, laidLooks := .later }
def FnExactAppendChecksumCardSaid : Prop := Claim7.holds Tryd.pinned (.plain (OpenSpec.ofChange fnExactAppendChecksumSpec)) fnExactAppendChecksumCard

/-- THE TIED CARD OF 'laws.FnExactVerifyChecksum'. -/
def fnExactVerifyChecksumCard : Claim7 := { stood := { row := fnExactVerifyChecksumRow, standIns := [], harness := (true, "e5a4e3a701324b8c2c64b64dd71b17ccd056726785cca5dbe1c174529e559db2"), looks := false }, kinds := [], alts := [], laidByText := true, laidKinds := [.data, .data, .data], laidTests := true, laidLooks := .later }
def FnExactVerifyChecksumCardSaid : Prop := Claim7.holds Tryd.pinned (.plain (OpenSpec.ofChange fnExactVerifyChecksumSpec)) fnExactVerifyChecksumCard

/-- THE TIED CARD OF 'laws.FnExactFormatCalendar'. -/
def fnExactFormatCalendarCard : Claim7 := { stood := { row := fnExactFormatCalendarRow, standIns := [], harness := (true, "e5a4e3a701324b8c2c64b64dd71b17ccd056726785cca5dbe1c174529e559db2"), looks := false }, kinds := [], alts := [], laidByText := true, laidKinds := [.data, .data, .data], laidTests := true, laidLooks := .later }
def FnExactFormatCalendarCardSaid : Prop := Claim7.holds Tryd.pinned (.plain (OpenSpec.ofChange fnExactFormatCalendarSpec)) fnExactFormatCalendarCard

/-- THE TIED CARD OF 'laws.FnExactFormatNetwork'. -/
def fnExactFormatNetworkCard : Claim7 := { stood := { row := fnExactFormatNetworkRow, standIns := [], harness := (true, "e5a4e3a701324b8c2c64b64dd71b17ccd056726785cca5dbe1c174529e559db2"), looks := false }, kinds := [], alts := [], laidByText := true, laidKinds := [.data, .data, .data], laidTests := true, laidLooks := .later }
def FnExactFormatNetworkCardSaid : Prop := Claim7.holds Tryd.pinned (.plain (OpenSpec.ofChange fnExactFormatNetworkSpec)) fnExactFormatNetworkCard

/-- THE TIED CARD OF 'laws.FnExactFormatTimetable'. -/
def fnExactFormatTimetableCard : Claim7 := { stood := { row := fnExactFormatTimetableRow, standIns := [], harness := (true, "e5a4e3a701324b8c2c64b64dd71b17ccd056726785cca5dbe1c174529e559db2"), looks := false }, kinds := [], alts := [], laidByText := true, laidKinds := [.data, .data, .data], laidTests := true, laidLooks := .later }
def FnExactFormatTimetableCardSaid : Prop := Claim7.holds Tryd.pinned (.plain (OpenSpec.ofChange fnExactFormatTimetableSpec)) fnExactFormatTimetableCard

/-- THE TIED CARD OF 'laws.FnExactSameText'. -/
def fnExactSameTextCard : Claim7 := { stood := { row := fnExactSameTextRow, standIns := [], harness := (true, "e5a4e3a701324b8c2c64b64dd71b17ccd056726785cca5dbe1c174529e559db2"), looks := false }, kinds := [], alts := [], laidByText := true, laidKinds := [.data, .data, .data], laidTests := true, laidLooks := .later }
def FnExactSameTextCardSaid : Prop := Claim7.holds Tryd.pinned (.plain (OpenSpec.ofChange fnExactSameTextSpec)) fnExactSameTextCard

/-- THE TIED CARD OF 'laws.FnExactSplitString'. -/
def fnExactSplitStringCard : Claim7 := { stood := { row := fnExactSplitStringRow, standIns := [], harness := (true, "e5a4e3a701324b8c2c64b64dd71b17ccd056726785cca5dbe1c174529e559db2"), looks := false }, kinds := [], alts := [], laidByText := true, laidKinds := [.data, .pinned], laidTests := true, laidLooks := .later }
def FnExactSplitStringCardSaid : Prop := Claim7.holds Tryd.pinned (.plain (OpenSpec.ofChange fnExactSplitStringSpec)) fnExactSplitStringCard

/-- THE SECOND FORM's CARD OF 'laws.FnExactFormatInt'. -/
def fnExactFormatIntUptoCard : Claim7 := { stood := { row := fnExactFormatIntUptoRow, standIns := [], harness := (true, "e5a4e3a701324b8c2c64b64dd71b17ccd056726785cca5dbe1c174529e559db2"), looks := false }, kinds := [], alts := [], laidByText := true, laidKinds := [.data, .data, .data], laidTests := true, laidLooks := .later }
def FnExactFormatIntUptoCardSaid : Prop := Claim7.holds Tryd.pinned (.plain (OpenSpec.upto fnExactFormatIntSpec)) fnExactFormatIntUptoCard

/-- THE SECOND FORM's CARD OF 'laws.FnExactAppendChecksum'. -/
def fnExactAppendChecksumUptoCard : Claim7 := { stood := { row := fnExactAppendChecksumUptoRow, standIns := [], harness := (true, "e5a4e3a701324b8c2c64b64dd71b17ccd056726785cca5dbe1c174529e559db2"), looks := false }, kinds := [], alts := [], laidByText := true, laidKinds := [.data, .data, .data], laidTests := true, laidLooks := .later }
def FnExactAppendChecksumUptoCardSaid : Prop := Claim7.holds Tryd.pinned (.plain (OpenSpec.upto fnExactAppendChecksumSpec)) fnExactAppendChecksumUptoCard

/-- THE SECOND FORM's CARD OF 'laws.FnExactVerifyChecksum'. -/
def fnExactVerifyChecksumUptoCard : Claim7 := { stood := { row := fnExactVerifyChecksumUptoRow, standIns := [], harness := (true, "e5a4e3a701324b8c2c64b64dd71b17ccd056726785cca5dbe1c174529e559db2"), looks := false }, kinds := [], alts := [], laidByText := true, laidKinds := [.data, .data, .data], laidTests := true, laidLooks := .later }
def FnExactVerifyChecksumUptoCardSaid : Prop := Claim7.holds Tryd.pinned (.plain (OpenSpec.upto fnExactVerifyChecksumSpec)) fnExactVerifyChecksumUptoCard

/-- THE SECOND FORM's CARD OF 'laws.FnExactFormatCalendar'. -/
def fnExactFormatCalendarUptoCard : Claim7 := { stood := { row := fnExactFormatCalendarUptoRow, standIns := [], harness := (true, "e5a4e3a701324b8c2c64b64dd71b17ccd056726785cca5dbe1c174529e559db2"), looks := false }, kinds := [], alts := [], laidByText := true, laidKinds := [.data, .data, .data], laidTests := true, laidLooks := .later }
def FnExactFormatCalendarUptoCardSaid : Prop := Claim7.holds Tryd.pinned (.plain (OpenSpec.upto fnExactFormatCalendarSpec)) fnExactFormatCalendarUptoCard

/-- THE SECOND FORM's CARD OF 'laws.FnExactFormatNetwork'. -/
def fnExactFormatNetworkUptoCard : Claim7 := { stood := { row := fnExactFormatNetworkUptoRow, standIns := [], harness := (true, "e5a4e3a701324b8c2c64b64dd71b17ccd056726785cca5dbe1c174529e559db2"), looks := false }, kinds := [], alts := [], laidByText := true, laidKinds := [.data, .data, .data], laidTests := true, laidLooks := .later }
def FnExactFormatNetworkUptoCardSaid : Prop := Claim7.holds Tryd.pinned (.plain (OpenSpec.upto fnExactFormatNetworkSpec)) fnExactFormatNetworkUptoCard

/-- THE SECOND FORM's CARD OF 'laws.FnExactFormatTimetable'. -/
def fnExactFormatTimetableUptoCard : Claim7 := { stood := { row := fnExactFormatTimetableUptoRow, standIns := [], harness := (true, "e5a4e3a701324b8c2c64b64dd71b17ccd056726785cca5dbe1c174529e559db2"), looks := false }, kinds := [], alts := [], laidByText := true, laidKinds := [.data, .data, .data], laidTests := true, laidLooks := .later }
def FnExactFormatTimetableUptoCardSaid : Prop := Claim7.holds Tryd.pinned (.plain (OpenSpec.upto fnExactFormatTimetableSpec)) fnExactFormatTimetableUptoCard

/-- THE SECOND FORM's CARD OF 'laws.FnExactSameText'. -/
def fnExactSameTextUptoCard : Claim7 := { stood := { row := fnExactSameTextUptoRow, standIns := [], harness := (true, "e5a4e3a701324b8c2c64b64dd71b17ccd056726785cca5dbe1c174529e559db2"), looks := false }, kinds := [], alts := [], laidByText := true, laidKinds := [.data, .data, .data], laidTests := true, laidLooks := .later }
def FnExactSameTextUptoCardSaid : Prop := Claim7.holds Tryd.pinned (.plain (OpenSpec.upto fnExactSameTextSpec)) fnExactSameTextUptoCard

/-- THE SECOND FORM's CARD OF 'laws.FnExactSplitString'. -/
def fnExactSplitStringUptoCard : Claim7 := { stood := { row := fnExactSplitStringUptoRow, standIns := [], harness := (true, "e5a4e3a701324b8c2c64b64dd71b17ccd056726785cca5dbe1c174529e559db2"), looks := false }, kinds := [], alts := [], laidByText := true, laidKinds := [.data, .pinned], laidTests := true, laidLooks := .later }
def FnExactSplitStringUptoCardSaid : Prop := Claim7.holds Tryd.pinned (.plain (OpenSpec.upto fnExactSplitStringSpec)) fnExactSplitStringUptoCard
end Rows
end Go.Proofs.YtgakmmjbdejmdaaDoor
