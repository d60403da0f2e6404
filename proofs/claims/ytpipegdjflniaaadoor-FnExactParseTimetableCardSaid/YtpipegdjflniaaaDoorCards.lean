/-
  DERIVED. GIVEN WITH THE SEED: THE CARDS: each row of YtpipegdjflniaaaDoorRows.lean that lists a variable, with what it lists TIED to the program's text (the seventh form; the later family's looks); each row that meets fmt, with fmt's text TOLD by the authors' own Lean function (tested against real Go, not proved from fmt's source: count such statements apart). THE CARD IS WHAT COUNTS. Prove the row's statement (the work); the ties are given (YtpipegdjflniaaaDoorTie.lean); close each card by the builder's one call (the guide's Derived/Test/ToyasCard.lean, 'card_holds'). Laid BY PROGRAM, IN A SANDBOX (cutbox-door.mjs). By AI agents, Wed Nov 11 2026. No macro, syntax, notation, axiom, sorry.
-/
import Derived.Test.YtpipegdjflniaaaDoorRows
import GoSem.ClaimSeven
namespace Go.Proofs.YtpipegdjflniaaaDoor
namespace Rows

/-- THE TIED CARD OF 'laws.FnExactParseNetwork'. -/
def fnExactParseNetworkCard : Claim7 := { stood := { row := fnExactParseNetworkRow, standIns := [], harness := (true, "8e7e7d5ee2d7d85c6cec38bb046ed2f54f2aedae46d4d5fda2cb2ab55a3317c1"), looks := false }, kinds := [], alts := [], laidByText := true, laidKinds := [.data, .pinned], laidTests := true, laidLooks := .later }
def FnExactParseNetworkCardSaid : Prop := Claim7.holds Tryd.pinned (.plain (OpenSpec.ofChange fnExactParseNetworkSpec)) fnExactParseNetworkCard

/-- THE TIED CARD OF 'laws.FnExactParseTimetable'. -/
def fnExactParseTimetableCard : Claim7 := { stood := { row := fnExactParseTimetableRow, standIns := [], harness := (true, "8e7e7d5ee2d7d85c6cec38bb046ed2f54f2aedae46d4d5fda2cb2ab55a3317c1"), looks := false }, kinds := [], alts := [], laidByText := true, laidKinds := [.data, .pinned], laidTests := true, laidLooks := .later }
def FnExactParseTimetableCardSaid : Prop := Claim7.holds Tryd.pinned (.plain (OpenSpec.ofChange fnExactParseTimetableSpec)) fnExactParseTimetableCard

/-- THE SECOND FORM's CARD OF 'laws.FnExactParseNetwork'. -/
def fnExactParseNetworkUptoCard : Claim7 := { stood := { row := fnExactParseNetworkUptoRow, standIns := [], harness := (true, "8e7e7d5ee2d7d85c6cec38bb046ed2f54f2aedae46d4d5fda2cb2ab55a3317c1"), looks := false }, kinds := [], alts := [], laidByText := true, laidKinds := [.data, .pinned], laidTests := true, laidLooks := .later }
def FnExactParseNetworkUptoCardSaid : Prop := Claim7.holds Tryd.pinned (.plain (OpenSpec.upto fnExactParseNetworkSpec)) fnExactParseNetworkUptoCard

/-- THE SECOND FORM's CARD OF 'laws.FnExactParseTimetable'. -/
def fnExactParseTimetableUptoCard : Claim7 := { stood := { row := fnExactParseTimetableUptoRow, standIns := [], harness := (true, "8e7e7d5ee2d7d85c6cec38bb046ed2f54f2aedae46d4d5fda2cb2ab55a3317c1"), looks := false }, kinds := [], alts := [], laidByText := true, laidKinds := [.data, .pinned], laidTests := true, laidLooks := .later }
def FnExactParseTimetableUptoCardSaid : Prop := Claim7.holds Tryd.pinned (.plain (OpenSpec.upto fnExactParseTimetableSpec)) fnExactParseTimetableUptoCard
end Rows
end Go.Proofs.YtpipegdjflniaaaDoor
