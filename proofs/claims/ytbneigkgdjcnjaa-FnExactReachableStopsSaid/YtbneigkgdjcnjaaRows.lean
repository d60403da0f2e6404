/-
  No cell of these rows narrows 'for every input' (looked for: loops, veiled, ifaces, maps, wideKeys, modest, calm, conditions, laid).
  DERIVED. THE GIVEN ROWS OF THIS SEAT. 12 by the template 'for every input the law returns true; each argument reads behind the call as it read before'; 0 by the template 'total and deterministic' (their statements: YtbneigkgdjcnjaaTotals.lean).
  GIVEN WITH THE SEED: the statements are not yours to turn. If you find one false, say at which input.
  Laid BY PROGRAM, IN A SANDBOX (cutbox-rows.mjs): the forced cells as the released guide's own fill.sh prints them over the translation 453e34b5cc2e47a8… (all of the seat's roots in one cut). By AI agents, Wed Nov 11 2026. No macro, syntax, notation, axiom, sorry.
-/
import Derived.Test.YtbneigkgdjcnjaaChecked
import GoSem.Claim
import GoSem.ClaimJoined
import GoSem.ClaimMapViews
import Derived.JoinedTies
import Derived.KernelRfl
namespace Go.Proofs.Ytbneigkgdjcnjaa
/- THE CELL 'sum', in the pinned program and in every row, IS THE sha256 OF THE DUMP (.gsa) THAT YtbneigkgdjcnjaaProg.lean LOADS. Nothing in Lean hashes anything: it is a label: what it is worth is what the hold of that sum in a sandbox is worth. -/
noncomputable def Try.pinned : Pinned := { name := "ytbneigkgdjcnjaa", sum := "453e34b5cc2e47a80d5247643c7d10a2f5145adce296d14fd570c07ed7e4a831", checked := Try.checked }
namespace Rows
def none {H : Type} : Left H := { results := [], args := [] }

/-- 'laws.FnExactStopNumber': WHATEVER THE INPUT: true; the input reads as it did. -/
def fnExactStopNumberSpec : ChangeSpec := { name := "fnExactStopNumber", fn := fun _ => fun
  | [d1, d2] => { results := [.lit (.bool true)], args := [d1, d2] }
  | _ => none }
def fnExactStopNumberRow : OpenClaim := { program := "ytbneigkgdjcnjaa", sum := "453e34b5cc2e47a80d5247643c7d10a2f5145adce296d14fd570c07ed7e4a831", func := "loop.example/g00900/laws.FnExactStopNumber", spec := "fnExactStopNumber", apart := false }
def FnExactStopNumberSaid : Prop := fnExactStopNumberRow.holds Try.pinned (OpenSpec.ofChange fnExactStopNumberSpec)

/-- ITS FALSE NEIGHBOUR: 'it returns false'. Refute it at one input. -/
def fnExactStopNumberWrong : ChangeSpec := { name := "fnExactStopNumber", fn := fun _ => fun
  | [d1, d2] => { results := [.lit (.bool false)], args := [d1, d2] }
  | _ => none }
def FnExactStopNumberWrongFalsely : Prop := fnExactStopNumberRow.holds Try.pinned (OpenSpec.ofChange fnExactStopNumberWrong)

/-- 'laws.FnExactLineNumber': WHATEVER THE INPUT: true; the input reads as it did. -/
def fnExactLineNumberSpec : ChangeSpec := { name := "fnExactLineNumber", fn := fun _ => fun
  | [d1, d2] => { results := [.lit (.bool true)], args := [d1, d2] }
  | _ => none }
def fnExactLineNumberRow : OpenClaim := { program := "ytbneigkgdjcnjaa", sum := "453e34b5cc2e47a80d5247643c7d10a2f5145adce296d14fd570c07ed7e4a831", func := "loop.example/g00900/laws.FnExactLineNumber", spec := "fnExactLineNumber", apart := false }
def FnExactLineNumberSaid : Prop := fnExactLineNumberRow.holds Try.pinned (OpenSpec.ofChange fnExactLineNumberSpec)

/-- ITS FALSE NEIGHBOUR: 'it returns false'. Refute it at one input. -/
def fnExactLineNumberWrong : ChangeSpec := { name := "fnExactLineNumber", fn := fun _ => fun
  | [d1, d2] => { results := [.lit (.bool false)], args := [d1, d2] }
  | _ => none }
def FnExactLineNumberWrongFalsely : Prop := fnExactLineNumberRow.holds Try.pinned (OpenSpec.ofChange fnExactLineNumberWrong)

/-- 'laws.FnExactRunTime': WHATEVER THE INPUT: true; the input reads as it did. -/
def fnExactRunTimeSpec : ChangeSpec := { name := "fnExactRunTime", fn := fun _ => fun
  | [d1, d2, d3, d4] => { results := [.lit (.bool true)], args := [d1, d2, d3, d4] }
  | _ => none }
def fnExactRunTimeRow : OpenClaim := { program := "ytbneigkgdjcnjaa", sum := "453e34b5cc2e47a80d5247643c7d10a2f5145adce296d14fd570c07ed7e4a831", func := "loop.example/g00900/laws.FnExactRunTime", spec := "fnExactRunTime", apart := false }
def FnExactRunTimeSaid : Prop := fnExactRunTimeRow.holds Try.pinned (OpenSpec.ofChange fnExactRunTimeSpec)

/-- ITS FALSE NEIGHBOUR: 'it returns false'. Refute it at one input. -/
def fnExactRunTimeWrong : ChangeSpec := { name := "fnExactRunTime", fn := fun _ => fun
  | [d1, d2, d3, d4] => { results := [.lit (.bool false)], args := [d1, d2, d3, d4] }
  | _ => none }
def FnExactRunTimeWrongFalsely : Prop := fnExactRunTimeRow.holds Try.pinned (OpenSpec.ofChange fnExactRunTimeWrong)

/-- 'laws.FnExactFewestLines': WHATEVER THE INPUT: true; the input reads as it did. -/
def fnExactFewestLinesSpec : ChangeSpec := { name := "fnExactFewestLines", fn := fun _ => fun
  | [d1, d2, d3] => { results := [.lit (.bool true)], args := [d1, d2, d3] }
  | _ => none }
def fnExactFewestLinesRow : OpenClaim := { program := "ytbneigkgdjcnjaa", sum := "453e34b5cc2e47a80d5247643c7d10a2f5145adce296d14fd570c07ed7e4a831", func := "loop.example/g00900/laws.FnExactFewestLines", spec := "fnExactFewestLines", apart := false }
def FnExactFewestLinesSaid : Prop := fnExactFewestLinesRow.holds Try.pinned (OpenSpec.ofChange fnExactFewestLinesSpec)

/-- ITS FALSE NEIGHBOUR: 'it returns false'. Refute it at one input. -/
def fnExactFewestLinesWrong : ChangeSpec := { name := "fnExactFewestLines", fn := fun _ => fun
  | [d1, d2, d3] => { results := [.lit (.bool false)], args := [d1, d2, d3] }
  | _ => none }
def FnExactFewestLinesWrongFalsely : Prop := fnExactFewestLinesRow.holds Try.pinned (OpenSpec.ofChange fnExactFewestLinesWrong)

/-- 'laws.FnExactLinesAt': WHATEVER THE INPUT: true; the input reads as it did. -/
def fnExactLinesAtSpec : ChangeSpec := { name := "fnExactLinesAt", fn := fun _ => fun
  | [d1, d2] => { results := [.lit (.bool true)], args := [d1, d2] }
  | _ => none }
def fnExactLinesAtRow : OpenClaim := { program := "ytbneigkgdjcnjaa", sum := "453e34b5cc2e47a80d5247643c7d10a2f5145adce296d14fd570c07ed7e4a831", func := "loop.example/g00900/laws.FnExactLinesAt", spec := "fnExactLinesAt", apart := false }
def FnExactLinesAtSaid : Prop := fnExactLinesAtRow.holds Try.pinned (OpenSpec.ofChange fnExactLinesAtSpec)

/-- ITS FALSE NEIGHBOUR: 'it returns false'. Refute it at one input. -/
def fnExactLinesAtWrong : ChangeSpec := { name := "fnExactLinesAt", fn := fun _ => fun
  | [d1, d2] => { results := [.lit (.bool false)], args := [d1, d2] }
  | _ => none }
def FnExactLinesAtWrongFalsely : Prop := fnExactLinesAtRow.holds Try.pinned (OpenSpec.ofChange fnExactLinesAtWrong)

/-- 'laws.FnExactTerminalStops': WHATEVER THE INPUT: true; the input reads as it did. -/
def fnExactTerminalStopsSpec : ChangeSpec := { name := "fnExactTerminalStops", fn := fun _ => fun
  | [d] => { results := [.lit (.bool true)], args := [d] }
  | _ => none }
def fnExactTerminalStopsRow : OpenClaim := { program := "ytbneigkgdjcnjaa", sum := "453e34b5cc2e47a80d5247643c7d10a2f5145adce296d14fd570c07ed7e4a831", func := "loop.example/g00900/laws.FnExactTerminalStops", spec := "fnExactTerminalStops", unfollowed := true, recurses := true, apart := false }
def FnExactTerminalStopsSaid : Prop := fnExactTerminalStopsRow.holds Try.pinned (OpenSpec.ofChange fnExactTerminalStopsSpec)

/-- ITS FALSE NEIGHBOUR: 'it returns false'. Refute it at one input. -/
def fnExactTerminalStopsWrong : ChangeSpec := { name := "fnExactTerminalStops", fn := fun _ => fun
  | [d] => { results := [.lit (.bool false)], args := [d] }
  | _ => none }
def FnExactTerminalStopsWrongFalsely : Prop := fnExactTerminalStopsRow.holds Try.pinned (OpenSpec.ofChange fnExactTerminalStopsWrong)

/-- 'laws.FnExactReachableStops': WHATEVER THE INPUT: true; the input reads as it did. -/
def fnExactReachableStopsSpec : ChangeSpec := { name := "fnExactReachableStops", fn := fun _ => fun
  | [d1, d2] => { results := [.lit (.bool true)], args := [d1, d2] }
  | _ => none }
def fnExactReachableStopsRow : OpenClaim := { program := "ytbneigkgdjcnjaa", sum := "453e34b5cc2e47a80d5247643c7d10a2f5145adce296d14fd570c07ed7e4a831", func := "loop.example/g00900/laws.FnExactReachableStops", spec := "fnExactReachableStops", apart := false }
def FnExactReachableStopsSaid : Prop := fnExactReachableStopsRow.holds Try.pinned (OpenSpec.ofChange fnExactReachableStopsSpec)

/-- ITS FALSE NEIGHBOUR: 'it returns false'. Refute it at one input. -/
def fnExactReachableStopsWrong : ChangeSpec := { name := "fnExactReachableStops", fn := fun _ => fun
  | [d1, d2] => { results := [.lit (.bool false)], args := [d1, d2] }
  | _ => none }
def FnExactReachableStopsWrongFalsely : Prop := fnExactReachableStopsRow.holds Try.pinned (OpenSpec.ofChange fnExactReachableStopsWrong)

/-- 'laws.FnExactReverseLine': WHATEVER THE INPUT: true; the input reads as it did. -/
def fnExactReverseLineSpec : ChangeSpec := { name := "fnExactReverseLine", fn := fun _ => fun
  | [d1, d2, d3] => { results := [.lit (.bool true)], args := [d1, d2, d3] }
  | _ => none }
def fnExactReverseLineRow : OpenClaim := { program := "ytbneigkgdjcnjaa", sum := "453e34b5cc2e47a80d5247643c7d10a2f5145adce296d14fd570c07ed7e4a831", func := "loop.example/g00900/laws.FnExactReverseLine", spec := "fnExactReverseLine", apart := false }
def FnExactReverseLineSaid : Prop := fnExactReverseLineRow.holds Try.pinned (OpenSpec.ofChange fnExactReverseLineSpec)

/-- ITS FALSE NEIGHBOUR: 'it returns false'. Refute it at one input. -/
def fnExactReverseLineWrong : ChangeSpec := { name := "fnExactReverseLine", fn := fun _ => fun
  | [d1, d2, d3] => { results := [.lit (.bool false)], args := [d1, d2, d3] }
  | _ => none }
def FnExactReverseLineWrongFalsely : Prop := fnExactReverseLineRow.holds Try.pinned (OpenSpec.ofChange fnExactReverseLineWrong)

/-- 'laws.FnExactCommonDays': WHATEVER THE INPUT: true; the input reads as it did. -/
def fnExactCommonDaysSpec : ChangeSpec := { name := "fnExactCommonDays", fn := fun _ => fun
  | [d1, d2] => { results := [.lit (.bool true)], args := [d1, d2] }
  | _ => none }
def fnExactCommonDaysRow : OpenClaim := { program := "ytbneigkgdjcnjaa", sum := "453e34b5cc2e47a80d5247643c7d10a2f5145adce296d14fd570c07ed7e4a831", func := "loop.example/g00900/laws.FnExactCommonDays", spec := "fnExactCommonDays", apart := false }
def FnExactCommonDaysSaid : Prop := fnExactCommonDaysRow.holds Try.pinned (OpenSpec.ofChange fnExactCommonDaysSpec)

/-- ITS FALSE NEIGHBOUR: 'it returns false'. Refute it at one input. -/
def fnExactCommonDaysWrong : ChangeSpec := { name := "fnExactCommonDays", fn := fun _ => fun
  | [d1, d2] => { results := [.lit (.bool false)], args := [d1, d2] }
  | _ => none }
def FnExactCommonDaysWrongFalsely : Prop := fnExactCommonDaysRow.holds Try.pinned (OpenSpec.ofChange fnExactCommonDaysWrong)

/-- 'laws.FnExactFitCalendar': WHATEVER THE INPUT: true; the input reads as it did. -/
def fnExactFitCalendarSpec : ChangeSpec := { name := "fnExactFitCalendar", fn := fun _ => fun
  | [d1, d2, d3] => { results := [.lit (.bool true)], args := [d1, d2, d3] }
  | _ => none }
def fnExactFitCalendarRow : OpenClaim := { program := "ytbneigkgdjcnjaa", sum := "453e34b5cc2e47a80d5247643c7d10a2f5145adce296d14fd570c07ed7e4a831", func := "loop.example/g00900/laws.FnExactFitCalendar", spec := "fnExactFitCalendar", apart := false }
def FnExactFitCalendarSaid : Prop := fnExactFitCalendarRow.holds Try.pinned (OpenSpec.ofChange fnExactFitCalendarSpec)

/-- ITS FALSE NEIGHBOUR: 'it returns false'. Refute it at one input. -/
def fnExactFitCalendarWrong : ChangeSpec := { name := "fnExactFitCalendar", fn := fun _ => fun
  | [d1, d2, d3] => { results := [.lit (.bool false)], args := [d1, d2, d3] }
  | _ => none }
def FnExactFitCalendarWrongFalsely : Prop := fnExactFitCalendarRow.holds Try.pinned (OpenSpec.ofChange fnExactFitCalendarWrong)

/-- 'laws.FnExactBusiestTime': WHATEVER THE INPUT: true; the input reads as it did. -/
def fnExactBusiestTimeSpec : ChangeSpec := { name := "fnExactBusiestTime", fn := fun _ => fun
  | [d] => { results := [.lit (.bool true)], args := [d] }
  | _ => none }
def fnExactBusiestTimeRow : OpenClaim := { program := "ytbneigkgdjcnjaa", sum := "453e34b5cc2e47a80d5247643c7d10a2f5145adce296d14fd570c07ed7e4a831", func := "loop.example/g00900/laws.FnExactBusiestTime", spec := "fnExactBusiestTime", apart := false }
def FnExactBusiestTimeSaid : Prop := fnExactBusiestTimeRow.holds Try.pinned (OpenSpec.ofChange fnExactBusiestTimeSpec)

/-- ITS FALSE NEIGHBOUR: 'it returns false'. Refute it at one input. -/
def fnExactBusiestTimeWrong : ChangeSpec := { name := "fnExactBusiestTime", fn := fun _ => fun
  | [d] => { results := [.lit (.bool false)], args := [d] }
  | _ => none }
def FnExactBusiestTimeWrongFalsely : Prop := fnExactBusiestTimeRow.holds Try.pinned (OpenSpec.ofChange fnExactBusiestTimeWrong)

/-- 'laws.FnExactIsValidWalks': WHATEVER THE INPUT: true; the input reads as it did. -/
def fnExactIsValidWalksSpec : ChangeSpec := { name := "fnExactIsValidWalks", fn := fun _ => fun
  | [d1, d2] => { results := [.lit (.bool true)], args := [d1, d2] }
  | _ => none }
def fnExactIsValidWalksRow : OpenClaim := { program := "ytbneigkgdjcnjaa", sum := "453e34b5cc2e47a80d5247643c7d10a2f5145adce296d14fd570c07ed7e4a831", func := "loop.example/g00900/laws.FnExactIsValidWalks", spec := "fnExactIsValidWalks", apart := false }
def FnExactIsValidWalksSaid : Prop := fnExactIsValidWalksRow.holds Try.pinned (OpenSpec.ofChange fnExactIsValidWalksSpec)

/-- ITS FALSE NEIGHBOUR: 'it returns false'. Refute it at one input. -/
def fnExactIsValidWalksWrong : ChangeSpec := { name := "fnExactIsValidWalks", fn := fun _ => fun
  | [d1, d2] => { results := [.lit (.bool false)], args := [d1, d2] }
  | _ => none }
def FnExactIsValidWalksWrongFalsely : Prop := fnExactIsValidWalksRow.holds Try.pinned (OpenSpec.ofChange fnExactIsValidWalksWrong)

/- THE SECOND FORM. 'bulk': how many values and letters a reading holds, each counted each time it is reached (what is shared counts as often as it is met; a slice's spare places count too). A statement '..UptoSaid' is the law's where the arguments, and the package variables that the reading takes, are together of bulk at most 1048576: NARROWER than '..Said'. Prove '..Said' where nothing that the law and all that it calls make is longer than what came in: it says more and counts as full. Else prove '..UptoSaid'. A law counts once. -/
mutual
def uptoBulk {H : Type} : DataW H → Nat
  | .lit (.string bytes) => bytes.length + 1
  | .lit _ => 1
  | .nil => 1
  | .ptr d => uptoBulk d + 1
  | .slice elems spare => uptoBulkAll elems + uptoBulkAll spare + 1
  | .agg parts => uptoBulkAll parts + 1
  | .iface _ d => uptoBulk d + 1
  | .map entries => uptoBulkEntries entries + 1
  | .held _ => 1
def uptoBulkAll {H : Type} : List (DataW H) → Nat
  | [] => 0
  | d :: r => uptoBulk d + uptoBulkAll r
def uptoBulkEntries {H : Type} : List (Lit × DataW H) → Nat
  | [] => 0
  | x :: r => uptoBulkEntry x + uptoBulkEntries r
def uptoBulkEntry {H : Type} : Lit × DataW H → Nat
  | (.string bytes, d) => bytes.length + uptoBulk d + 1
  | (_, d) => uptoBulk d + 1
 end
def uptoSmall : (H : Type) → List (DataW H) → Bool := fun _ ds => decide (uptoBulkAll ds ≤ 1048576)
def OpenSpec.upto (s : _root_.Go.ChangeSpec) : _root_.Go.OpenSpec := { _root_.Go.OpenSpec.ofChange s with cond := some uptoSmall }

/-- 'laws.FnExactStopNumber', WHERE WHAT IT READS IS OF BULK AT MOST 1048576: true; the input reads as it did. -/
def fnExactStopNumberUptoRow : OpenClaim := { program := "ytbneigkgdjcnjaa", sum := "453e34b5cc2e47a80d5247643c7d10a2f5145adce296d14fd570c07ed7e4a831", func := "loop.example/g00900/laws.FnExactStopNumber", spec := "fnExactStopNumber", apart := false, narrowed := true }
def FnExactStopNumberUptoSaid : Prop := fnExactStopNumberUptoRow.holds Try.pinned (OpenSpec.upto fnExactStopNumberSpec)

/-- 'laws.FnExactLineNumber', WHERE WHAT IT READS IS OF BULK AT MOST 1048576: true; the input reads as it did. -/
def fnExactLineNumberUptoRow : OpenClaim := { program := "ytbneigkgdjcnjaa", sum := "453e34b5cc2e47a80d5247643c7d10a2f5145adce296d14fd570c07ed7e4a831", func := "loop.example/g00900/laws.FnExactLineNumber", spec := "fnExactLineNumber", apart := false, narrowed := true }
def FnExactLineNumberUptoSaid : Prop := fnExactLineNumberUptoRow.holds Try.pinned (OpenSpec.upto fnExactLineNumberSpec)

/-- 'laws.FnExactRunTime', WHERE WHAT IT READS IS OF BULK AT MOST 1048576: true; the input reads as it did. -/
def fnExactRunTimeUptoRow : OpenClaim := { program := "ytbneigkgdjcnjaa", sum := "453e34b5cc2e47a80d5247643c7d10a2f5145adce296d14fd570c07ed7e4a831", func := "loop.example/g00900/laws.FnExactRunTime", spec := "fnExactRunTime", apart := false, narrowed := true }
def FnExactRunTimeUptoSaid : Prop := fnExactRunTimeUptoRow.holds Try.pinned (OpenSpec.upto fnExactRunTimeSpec)

/-- 'laws.FnExactFewestLines', WHERE WHAT IT READS IS OF BULK AT MOST 1048576: true; the input reads as it did. -/
def fnExactFewestLinesUptoRow : OpenClaim := { program := "ytbneigkgdjcnjaa", sum := "453e34b5cc2e47a80d5247643c7d10a2f5145adce296d14fd570c07ed7e4a831", func := "loop.example/g00900/laws.FnExactFewestLines", spec := "fnExactFewestLines", apart := false, narrowed := true }
def FnExactFewestLinesUptoSaid : Prop := fnExactFewestLinesUptoRow.holds Try.pinned (OpenSpec.upto fnExactFewestLinesSpec)

/-- 'laws.FnExactLinesAt', WHERE WHAT IT READS IS OF BULK AT MOST 1048576: true; the input reads as it did. -/
def fnExactLinesAtUptoRow : OpenClaim := { program := "ytbneigkgdjcnjaa", sum := "453e34b5cc2e47a80d5247643c7d10a2f5145adce296d14fd570c07ed7e4a831", func := "loop.example/g00900/laws.FnExactLinesAt", spec := "fnExactLinesAt", apart := false, narrowed := true }
def FnExactLinesAtUptoSaid : Prop := fnExactLinesAtUptoRow.holds Try.pinned (OpenSpec.upto fnExactLinesAtSpec)

/-- 'laws.FnExactTerminalStops', WHERE WHAT IT READS IS OF BULK AT MOST 1048576: true; the input reads as it did. -/
def fnExactTerminalStopsUptoRow : OpenClaim := { program := "ytbneigkgdjcnjaa", sum := "453e34b5cc2e47a80d5247643c7d10a2f5145adce296d14fd570c07ed7e4a831", func := "loop.example/g00900/laws.FnExactTerminalStops", spec := "fnExactTerminalStops", unfollowed := true, recurses := true, apart := false, narrowed := true }
def FnExactTerminalStopsUptoSaid : Prop := fnExactTerminalStopsUptoRow.holds Try.pinned (OpenSpec.upto fnExactTerminalStopsSpec)

/-- 'laws.FnExactReachableStops', WHERE WHAT IT READS IS OF BULK AT MOST 1048576: true; the input reads as it did. -/
def fnExactReachableStopsUptoRow : OpenClaim := { program := "ytbneigkgdjcnjaa", sum := "453e34b5cc2e47a80d5247643c7d10a2f5145adce296d14fd570c07ed7e4a831", func := "loop.example/g00900/laws.FnExactReachableStops", spec := "fnExactReachableStops", apart := false, narrowed := true }
def FnExactReachableStopsUptoSaid : Prop := fnExactReachableStopsUptoRow.holds Try.pinned (OpenSpec.upto fnExactReachableStopsSpec)

/-- 'laws.FnExactReverseLine', WHERE WHAT IT READS IS OF BULK AT MOST 1048576: true; the input reads as it did. -/
def fnExactReverseLineUptoRow : OpenClaim := { program := "ytbneigkgdjcnjaa", sum := "453e34b5cc2e47a80d5247643c7d10a2f5145adce296d14fd570c07ed7e4a831", func := "loop.example/g00900/laws.FnExactReverseLine", spec := "fnExactReverseLine", apart := false, narrowed := true }
def FnExactReverseLineUptoSaid : Prop := fnExactReverseLineUptoRow.holds Try.pinned (OpenSpec.upto fnExactReverseLineSpec)

/-- 'laws.FnExactCommonDays', WHERE WHAT IT READS IS OF BULK AT MOST 1048576: true; the input reads as it did. -/
def fnExactCommonDaysUptoRow : OpenClaim := { program := "ytbneigkgdjcnjaa", sum := "453e34b5cc2e47a80d5247643c7d10a2f5145adce296d14fd570c07ed7e4a831", func := "loop.example/g00900/laws.FnExactCommonDays", spec := "fnExactCommonDays", apart := false, narrowed := true }
def FnExactCommonDaysUptoSaid : Prop := fnExactCommonDaysUptoRow.holds Try.pinned (OpenSpec.upto fnExactCommonDaysSpec)

/-- 'laws.FnExactFitCalendar', WHERE WHAT IT READS IS OF BULK AT MOST 1048576: true; the input reads as it did. -/
def fnExactFitCalendarUptoRow : OpenClaim := { program := "ytbneigkgdjcnjaa", sum := "453e34b5cc2e47a80d5247643c7d10a2f5145adce296d14fd570c07ed7e4a831", func := "loop.example/g00900/laws.FnExactFitCalendar", spec := "fnExactFitCalendar", apart := false, narrowed := true }
def FnExactFitCalendarUptoSaid : Prop := fnExactFitCalendarUptoRow.holds Try.pinned (OpenSpec.upto fnExactFitCalendarSpec)

/-- 'laws.FnExactBusiestTime', WHERE WHAT IT READS IS OF BULK AT MOST 1048576: true; the input reads as it did. -/
def fnExactBusiestTimeUptoRow : OpenClaim := { program := "ytbneigkgdjcnjaa", sum := "453e34b5cc2e47a80d5247643c7d10a2f5145adce296d14fd570c07ed7e4a831", func := "loop.example/g00900/laws.FnExactBusiestTime", spec := "fnExactBusiestTime", apart := false, narrowed := true }
def FnExactBusiestTimeUptoSaid : Prop := fnExactBusiestTimeUptoRow.holds Try.pinned (OpenSpec.upto fnExactBusiestTimeSpec)

/-- 'laws.FnExactIsValidWalks', WHERE WHAT IT READS IS OF BULK AT MOST 1048576: true; the input reads as it did. -/
def fnExactIsValidWalksUptoRow : OpenClaim := { program := "ytbneigkgdjcnjaa", sum := "453e34b5cc2e47a80d5247643c7d10a2f5145adce296d14fd570c07ed7e4a831", func := "loop.example/g00900/laws.FnExactIsValidWalks", spec := "fnExactIsValidWalks", apart := false, narrowed := true }
def FnExactIsValidWalksUptoSaid : Prop := fnExactIsValidWalksUptoRow.holds Try.pinned (OpenSpec.upto fnExactIsValidWalksSpec)

end Rows
end Go.Proofs.Ytbneigkgdjcnjaa
