/-
  No cell of these rows narrows 'for every input' (looked for: loops, veiled, ifaces, maps, wideKeys, modest, calm, conditions, laid).
  DERIVED. THE GIVEN ROWS OF THIS SEAT. 12 by the template 'for every input the law returns true; each argument reads behind the call as it read before'; 0 by the template 'total and deterministic' (their statements: YtambgommeannnaaTotals.lean).
  GIVEN WITH THE SEED: the statements are not yours to turn. If you find one false, say at which input.
  Laid BY PROGRAM, IN A SANDBOX (cutbox-rows.mjs): the forced cells as the released guide's own fill.sh prints them over the translation 2ad9f098627ebf00… (all of the seat's roots in one cut). By AI agents, Wed Nov 11 2026. No macro, syntax, notation, axiom, sorry.
-/
import Derived.Test.YtambgommeannnaaChecked
import GoSem.Claim
import GoSem.ClaimJoined
import GoSem.ClaimMapViews
import Derived.JoinedTies
import Derived.KernelRfl
namespace Go.Proofs.Ytambgommeannnaa
/- THE CELL 'sum', in the pinned program and in every row, IS THE sha256 OF THE DUMP (.gsa) THAT YtambgommeannnaaProg.lean LOADS. Nothing in Lean hashes anything: it is a label: what it is worth is what the hold of that sum in a sandbox is worth. -/
noncomputable def Try.pinned : Pinned := { name := "ytambgommeannnaa", sum := "2ad9f098627ebf00e90fe5be33e0e37598fe7e37359e51e6ba838bde29cf5317", checked := Try.checked }
namespace Rows
def none {H : Type} : Left H := { results := [], args := [] }

/-- 'laws.FnExactFitCalendar': WHATEVER THE INPUT: true; the input reads as it did. -/
def fnExactFitCalendarSpec : ChangeSpec := { name := "fnExactFitCalendar", fn := fun _ => fun
  | [d1, d2, d3] => { results := [.lit (.bool true)], args := [d1, d2, d3] }
  | _ => none }
def fnExactFitCalendarRow : OpenClaim := { program := "ytambgommeannnaa", sum := "2ad9f098627ebf00e90fe5be33e0e37598fe7e37359e51e6ba838bde29cf5317", func := "loop.example/g00900/laws.FnExactFitCalendar", spec := "fnExactFitCalendar", apart := false }
def FnExactFitCalendarSaid : Prop := fnExactFitCalendarRow.holds Try.pinned (OpenSpec.ofChange fnExactFitCalendarSpec)

/-- ITS FALSE NEIGHBOUR: 'it returns false'. Refute it at one input. -/
def fnExactFitCalendarWrong : ChangeSpec := { name := "fnExactFitCalendar", fn := fun _ => fun
  | [d1, d2, d3] => { results := [.lit (.bool false)], args := [d1, d2, d3] }
  | _ => none }
def FnExactFitCalendarWrongFalsely : Prop := fnExactFitCalendarRow.holds Try.pinned (OpenSpec.ofChange fnExactFitCalendarWrong)

/-- 'laws.FnExactDeparturesAt': WHATEVER THE INPUT: true; the input reads as it did. -/
def fnExactDeparturesAtSpec : ChangeSpec := { name := "fnExactDeparturesAt", fn := fun _ => fun
  | [d1, d2, d3] => { results := [.lit (.bool true)], args := [d1, d2, d3] }
  | _ => none }
def fnExactDeparturesAtRow : OpenClaim := { program := "ytambgommeannnaa", sum := "2ad9f098627ebf00e90fe5be33e0e37598fe7e37359e51e6ba838bde29cf5317", func := "loop.example/g00900/laws.FnExactDeparturesAt", spec := "fnExactDeparturesAt", unfollowed := true, recurses := true, apart := false }
def FnExactDeparturesAtSaid : Prop := fnExactDeparturesAtRow.holds Try.pinned (OpenSpec.ofChange fnExactDeparturesAtSpec)

/-- ITS FALSE NEIGHBOUR: 'it returns false'. Refute it at one input. -/
def fnExactDeparturesAtWrong : ChangeSpec := { name := "fnExactDeparturesAt", fn := fun _ => fun
  | [d1, d2, d3] => { results := [.lit (.bool false)], args := [d1, d2, d3] }
  | _ => none }
def FnExactDeparturesAtWrongFalsely : Prop := fnExactDeparturesAtRow.holds Try.pinned (OpenSpec.ofChange fnExactDeparturesAtWrong)

/-- 'laws.FnExactExceptDay': WHATEVER THE INPUT: true; the input reads as it did. -/
def fnExactExceptDaySpec : ChangeSpec := { name := "fnExactExceptDay", fn := fun _ => fun
  | [d1, d2, d3] => { results := [.lit (.bool true)], args := [d1, d2, d3] }
  | _ => none }
def fnExactExceptDayRow : OpenClaim := { program := "ytambgommeannnaa", sum := "2ad9f098627ebf00e90fe5be33e0e37598fe7e37359e51e6ba838bde29cf5317", func := "loop.example/g00900/laws.FnExactExceptDay", spec := "fnExactExceptDay", inPlace := ["slices.overlaps[int]"], apart := false }
def FnExactExceptDaySaid : Prop := fnExactExceptDayRow.holds Try.pinned (OpenSpec.ofChange fnExactExceptDaySpec)

/-- ITS FALSE NEIGHBOUR: 'it returns false'. Refute it at one input. -/
def fnExactExceptDayWrong : ChangeSpec := { name := "fnExactExceptDay", fn := fun _ => fun
  | [d1, d2, d3] => { results := [.lit (.bool false)], args := [d1, d2, d3] }
  | _ => none }
def FnExactExceptDayWrongFalsely : Prop := fnExactExceptDayRow.holds Try.pinned (OpenSpec.ofChange fnExactExceptDayWrong)

/-- 'laws.FnExactReverseLine': WHATEVER THE INPUT: true; the input reads as it did. -/
def fnExactReverseLineSpec : ChangeSpec := { name := "fnExactReverseLine", fn := fun _ => fun
  | [d1, d2, d3] => { results := [.lit (.bool true)], args := [d1, d2, d3] }
  | _ => none }
def fnExactReverseLineRow : OpenClaim := { program := "ytambgommeannnaa", sum := "2ad9f098627ebf00e90fe5be33e0e37598fe7e37359e51e6ba838bde29cf5317", func := "loop.example/g00900/laws.FnExactReverseLine", spec := "fnExactReverseLine", apart := false }
def FnExactReverseLineSaid : Prop := fnExactReverseLineRow.holds Try.pinned (OpenSpec.ofChange fnExactReverseLineSpec)

/-- ITS FALSE NEIGHBOUR: 'it returns false'. Refute it at one input. -/
def fnExactReverseLineWrong : ChangeSpec := { name := "fnExactReverseLine", fn := fun _ => fun
  | [d1, d2, d3] => { results := [.lit (.bool false)], args := [d1, d2, d3] }
  | _ => none }
def FnExactReverseLineWrongFalsely : Prop := fnExactReverseLineRow.holds Try.pinned (OpenSpec.ofChange fnExactReverseLineWrong)

/-- 'laws.FnExactTotalMinutes': WHATEVER THE INPUT: true; the input reads as it did. -/
def fnExactTotalMinutesSpec : ChangeSpec := { name := "fnExactTotalMinutes", fn := fun _ => fun
  | [d] => { results := [.lit (.bool true)], args := [d] }
  | _ => none }
def fnExactTotalMinutesRow : OpenClaim := { program := "ytambgommeannnaa", sum := "2ad9f098627ebf00e90fe5be33e0e37598fe7e37359e51e6ba838bde29cf5317", func := "loop.example/g00900/laws.FnExactTotalMinutes", spec := "fnExactTotalMinutes", unfollowed := true, recurses := true, apart := false }
def FnExactTotalMinutesSaid : Prop := fnExactTotalMinutesRow.holds Try.pinned (OpenSpec.ofChange fnExactTotalMinutesSpec)

/-- ITS FALSE NEIGHBOUR: 'it returns false'. Refute it at one input. -/
def fnExactTotalMinutesWrong : ChangeSpec := { name := "fnExactTotalMinutes", fn := fun _ => fun
  | [d] => { results := [.lit (.bool false)], args := [d] }
  | _ => none }
def FnExactTotalMinutesWrongFalsely : Prop := fnExactTotalMinutesRow.holds Try.pinned (OpenSpec.ofChange fnExactTotalMinutesWrong)

/-- 'laws.FnExactMergeSpans': WHATEVER THE INPUT: true; the input reads as it did. -/
def fnExactMergeSpansSpec : ChangeSpec := { name := "fnExactMergeSpans", fn := fun _ => fun
  | [d] => { results := [.lit (.bool true)], args := [d] }
  | _ => none }
def fnExactMergeSpansRow : OpenClaim := { program := "ytambgommeannnaa", sum := "2ad9f098627ebf00e90fe5be33e0e37598fe7e37359e51e6ba838bde29cf5317", func := "loop.example/g00900/laws.FnExactMergeSpans", spec := "fnExactMergeSpans", unfollowed := true, recurses := true, apart := false }
def FnExactMergeSpansSaid : Prop := fnExactMergeSpansRow.holds Try.pinned (OpenSpec.ofChange fnExactMergeSpansSpec)

/-- ITS FALSE NEIGHBOUR: 'it returns false'. Refute it at one input. -/
def fnExactMergeSpansWrong : ChangeSpec := { name := "fnExactMergeSpans", fn := fun _ => fun
  | [d] => { results := [.lit (.bool false)], args := [d] }
  | _ => none }
def FnExactMergeSpansWrongFalsely : Prop := fnExactMergeSpansRow.holds Try.pinned (OpenSpec.ofChange fnExactMergeSpansWrong)

/-- 'laws.FnExactFreeSpans': WHATEVER THE INPUT: true; the input reads as it did. -/
def fnExactFreeSpansSpec : ChangeSpec := { name := "fnExactFreeSpans", fn := fun _ => fun
  | [d1, d2] => { results := [.lit (.bool true)], args := [d1, d2] }
  | _ => none }
def fnExactFreeSpansRow : OpenClaim := { program := "ytambgommeannnaa", sum := "2ad9f098627ebf00e90fe5be33e0e37598fe7e37359e51e6ba838bde29cf5317", func := "loop.example/g00900/laws.FnExactFreeSpans", spec := "fnExactFreeSpans", unfollowed := true, recurses := true, apart := false }
def FnExactFreeSpansSaid : Prop := fnExactFreeSpansRow.holds Try.pinned (OpenSpec.ofChange fnExactFreeSpansSpec)

/-- ITS FALSE NEIGHBOUR: 'it returns false'. Refute it at one input. -/
def fnExactFreeSpansWrong : ChangeSpec := { name := "fnExactFreeSpans", fn := fun _ => fun
  | [d1, d2] => { results := [.lit (.bool false)], args := [d1, d2] }
  | _ => none }
def FnExactFreeSpansWrongFalsely : Prop := fnExactFreeSpansRow.holds Try.pinned (OpenSpec.ofChange fnExactFreeSpansWrong)

/-- 'laws.FnExactShiftTrip': WHATEVER THE INPUT: true; the input reads as it did. -/
def fnExactShiftTripSpec : ChangeSpec := { name := "fnExactShiftTrip", fn := fun _ => fun
  | [d1, d2, d3] => { results := [.lit (.bool true)], args := [d1, d2, d3] }
  | _ => none }
def fnExactShiftTripRow : OpenClaim := { program := "ytambgommeannnaa", sum := "2ad9f098627ebf00e90fe5be33e0e37598fe7e37359e51e6ba838bde29cf5317", func := "loop.example/g00900/laws.FnExactShiftTrip", spec := "fnExactShiftTrip", unfollowed := true, recurses := true, apart := false }
def FnExactShiftTripSaid : Prop := fnExactShiftTripRow.holds Try.pinned (OpenSpec.ofChange fnExactShiftTripSpec)

/-- ITS FALSE NEIGHBOUR: 'it returns false'. Refute it at one input. -/
def fnExactShiftTripWrong : ChangeSpec := { name := "fnExactShiftTrip", fn := fun _ => fun
  | [d1, d2, d3] => { results := [.lit (.bool false)], args := [d1, d2, d3] }
  | _ => none }
def FnExactShiftTripWrongFalsely : Prop := fnExactShiftTripRow.holds Try.pinned (OpenSpec.ofChange fnExactShiftTripWrong)

/-- 'laws.FnExactRemoveTrip': WHATEVER THE INPUT: true; the input reads as it did. -/
def fnExactRemoveTripSpec : ChangeSpec := { name := "fnExactRemoveTrip", fn := fun _ => fun
  | [d1, d2] => { results := [.lit (.bool true)], args := [d1, d2] }
  | _ => none }
def fnExactRemoveTripRow : OpenClaim := { program := "ytambgommeannnaa", sum := "2ad9f098627ebf00e90fe5be33e0e37598fe7e37359e51e6ba838bde29cf5317", func := "loop.example/g00900/laws.FnExactRemoveTrip", spec := "fnExactRemoveTrip", unfollowed := true, recurses := true, apart := false }
def FnExactRemoveTripSaid : Prop := fnExactRemoveTripRow.holds Try.pinned (OpenSpec.ofChange fnExactRemoveTripSpec)

/-- ITS FALSE NEIGHBOUR: 'it returns false'. Refute it at one input. -/
def fnExactRemoveTripWrong : ChangeSpec := { name := "fnExactRemoveTrip", fn := fun _ => fun
  | [d1, d2] => { results := [.lit (.bool false)], args := [d1, d2] }
  | _ => none }
def FnExactRemoveTripWrongFalsely : Prop := fnExactRemoveTripRow.holds Try.pinned (OpenSpec.ofChange fnExactRemoveTripWrong)

/-- 'laws.FnExactHeadwaysOf': WHATEVER THE INPUT: true; the input reads as it did. -/
def fnExactHeadwaysOfSpec : ChangeSpec := { name := "fnExactHeadwaysOf", fn := fun _ => fun
  | [d1, d2] => { results := [.lit (.bool true)], args := [d1, d2] }
  | _ => none }
def fnExactHeadwaysOfRow : OpenClaim := { program := "ytambgommeannnaa", sum := "2ad9f098627ebf00e90fe5be33e0e37598fe7e37359e51e6ba838bde29cf5317", func := "loop.example/g00900/laws.FnExactHeadwaysOf", spec := "fnExactHeadwaysOf", unfollowed := true, recurses := true, apart := false }
def FnExactHeadwaysOfSaid : Prop := fnExactHeadwaysOfRow.holds Try.pinned (OpenSpec.ofChange fnExactHeadwaysOfSpec)

/-- ITS FALSE NEIGHBOUR: 'it returns false'. Refute it at one input. -/
def fnExactHeadwaysOfWrong : ChangeSpec := { name := "fnExactHeadwaysOf", fn := fun _ => fun
  | [d1, d2] => { results := [.lit (.bool false)], args := [d1, d2] }
  | _ => none }
def FnExactHeadwaysOfWrongFalsely : Prop := fnExactHeadwaysOfRow.holds Try.pinned (OpenSpec.ofChange fnExactHeadwaysOfWrong)

/-- 'laws.FnExactAddTrip': WHATEVER THE INPUT: true; the input reads as it did. -/
def fnExactAddTripSpec : ChangeSpec := { name := "fnExactAddTrip", fn := fun _ => fun
  | [d1, d2] => { results := [.lit (.bool true)], args := [d1, d2] }
  | _ => none }
def fnExactAddTripRow : OpenClaim := { program := "ytambgommeannnaa", sum := "2ad9f098627ebf00e90fe5be33e0e37598fe7e37359e51e6ba838bde29cf5317", func := "loop.example/g00900/laws.FnExactAddTrip", spec := "fnExactAddTrip", inPlace := ["slices.overlaps[loop.example/g00900/impl.Trip]"], apart := false }
def FnExactAddTripSaid : Prop := fnExactAddTripRow.holds Try.pinned (OpenSpec.ofChange fnExactAddTripSpec)

/-- ITS FALSE NEIGHBOUR: 'it returns false'. Refute it at one input. -/
def fnExactAddTripWrong : ChangeSpec := { name := "fnExactAddTrip", fn := fun _ => fun
  | [d1, d2] => { results := [.lit (.bool false)], args := [d1, d2] }
  | _ => none }
def FnExactAddTripWrongFalsely : Prop := fnExactAddTripRow.holds Try.pinned (OpenSpec.ofChange fnExactAddTripWrong)

/-- 'laws.FnExactRepeatTrips': WHATEVER THE INPUT: true; the input reads as it did. -/
def fnExactRepeatTripsSpec : ChangeSpec := { name := "fnExactRepeatTrips", fn := fun _ => fun
  | [d1, d2, d3, d4, d5] => { results := [.lit (.bool true)], args := [d1, d2, d3, d4, d5] }
  | _ => none }
def fnExactRepeatTripsRow : OpenClaim := { program := "ytambgommeannnaa", sum := "2ad9f098627ebf00e90fe5be33e0e37598fe7e37359e51e6ba838bde29cf5317", func := "loop.example/g00900/laws.FnExactRepeatTrips", spec := "fnExactRepeatTrips", inPlace := ["slices.overlaps[loop.example/g00900/impl.Trip]"], unfollowed := true, recurses := true, apart := false }
def FnExactRepeatTripsSaid : Prop := fnExactRepeatTripsRow.holds Try.pinned (OpenSpec.ofChange fnExactRepeatTripsSpec)

/-- ITS FALSE NEIGHBOUR: 'it returns false'. Refute it at one input. -/
def fnExactRepeatTripsWrong : ChangeSpec := { name := "fnExactRepeatTrips", fn := fun _ => fun
  | [d1, d2, d3, d4, d5] => { results := [.lit (.bool false)], args := [d1, d2, d3, d4, d5] }
  | _ => none }
def FnExactRepeatTripsWrongFalsely : Prop := fnExactRepeatTripsRow.holds Try.pinned (OpenSpec.ofChange fnExactRepeatTripsWrong)

/- THE SECOND FORM. 'bulk': how many values and letters a reading holds, each counted each time it is reached (what is shared counts as often as it is met; a slice's spare places count too). A statement '..UptoSaid' is the law's where the arguments, and the package variables that the reading takes, are together of bulk at most 1048576: NARROWER than '..Said'. Prove '..Said' where nothing that the law and all that it calls make is longer than what came in: it says more and counts as full. Else prove '..UptoSaid'. A law counts once. -/
mutual
def uptoBulk {H : Type} : DataW H → Nat
  | .lit (.string bytes) => bytes.length + 1
  | .lit _ => 1
  | .nil => 1
  | .ptr d => uptoBulk d + 1
  | .slice elems spare => uptoBulkAll elems + uptoBulkAll spare + 1
  | .agg parts => uptoBulkAll parts + 1
  | .iface _ d => uptoBulk d + 1
  | .map entries => uptoBulkEntries entries + 1
  | .held _ => 1
def uptoBulkAll {H : Type} : List (DataW H) → Nat
  | [] => 0
  | d :: r => uptoBulk d + uptoBulkAll r
def uptoBulkEntries {H : Type} : List (Lit × DataW H) → Nat
  | [] => 0
  | x :: r => uptoBulkEntry x + uptoBulkEntries r
def uptoBulkEntry {H : Type} : Lit × DataW H → Nat
  | (.string bytes, d) => bytes.length + uptoBulk d + 1
  | (_, d) => uptoBulk d + 1
 end
def uptoSmall : (H : Type) → List (DataW H) → Bool := fun _ ds => decide (uptoBulkAll ds ≤ 1048576)
def OpenSpec.upto (s : _root_.Go.ChangeSpec) : _root_.Go.OpenSpec := { _root_.Go.OpenSpec.ofChange s with cond := some uptoSmall }

/-- 'laws.FnExactFitCalendar', WHERE WHAT IT READS IS OF BULK AT MOST 1048576: true; the input reads as it did. -/
def fnExactFitCalendarUptoRow : OpenClaim := { program := "ytambgommeannnaa", sum := "2ad9f098627ebf00e90fe5be33e0e37598fe7e37359e51e6ba838bde29cf5317", func := "loop.example/g00900/laws.FnExactFitCalendar", spec := "fnExactFitCalendar", apart := false, narrowed := true }
def FnExactFitCalendarUptoSaid : Prop := fnExactFitCalendarUptoRow.holds Try.pinned (OpenSpec.upto fnExactFitCalendarSpec)

/-- 'laws.FnExactDeparturesAt', WHERE WHAT IT READS IS OF BULK AT MOST 1048576: true; the input reads as it did. -/
def fnExactDeparturesAtUptoRow : OpenClaim := { program := "ytambgommeannnaa", sum := "2ad9f098627ebf00e90fe5be33e0e37598fe7e37359e51e6ba838bde29cf5317", func := "loop.example/g00900/laws.FnExactDeparturesAt", spec := "fnExactDeparturesAt", unfollowed := true, recurses := true, apart := false, narrowed := true }
def FnExactDeparturesAtUptoSaid : Prop := fnExactDeparturesAtUptoRow.holds Try.pinned (OpenSpec.upto fnExactDeparturesAtSpec)

/-- 'laws.FnExactExceptDay', WHERE WHAT IT READS IS OF BULK AT MOST 1048576: true; the input reads as it did. -/
def fnExactExceptDayUptoRow : OpenClaim := { program := "ytambgommeannnaa", sum := "2ad9f098627ebf00e90fe5be33e0e37598fe7e37359e51e6ba838bde29cf5317", func := "loop.example/g00900/laws.FnExactExceptDay", spec := "fnExactExceptDay", inPlace := ["slices.overlaps[int]"], apart := false, narrowed := true }
def FnExactExceptDayUptoSaid : Prop := fnExactExceptDayUptoRow.holds Try.pinned (OpenSpec.upto fnExactExceptDaySpec)

/-- 'laws.FnExactReverseLine', WHERE WHAT IT READS IS OF BULK AT MOST 1048576: true; the input reads as it did. -/
def fnExactReverseLineUptoRow : OpenClaim := { program := "ytambgommeannnaa", sum := "2ad9f098627ebf00e90fe5be33e0e37598fe7e37359e51e6ba838bde29cf5317", func := "loop.example/g00900/laws.FnExactReverseLine", spec := "fnExactReverseLine", apart := false, narrowed := true }
def FnExactReverseLineUptoSaid : Prop := fnExactReverseLineUptoRow.holds Try.pinned (OpenSpec.upto fnExactReverseLineSpec)

/-- 'laws.FnExactTotalMinutes', WHERE WHAT IT READS IS OF BULK AT MOST 1048576: true; the input reads as it did. -/
def fnExactTotalMinutesUptoRow : OpenClaim := { program := "ytambgommeannnaa", sum := "2ad9f098627ebf00e90fe5be33e0e37598fe7e37359e51e6ba838bde29cf5317", func := "loop.example/g00900/laws.FnExactTotalMinutes", spec := "fnExactTotalMinutes", unfollowed := true, recurses := true, apart := false, narrowed := true }
def FnExactTotalMinutesUptoSaid : Prop := fnExactTotalMinutesUptoRow.holds Try.pinned (OpenSpec.upto fnExactTotalMinutesSpec)

/-- 'laws.FnExactMergeSpans', WHERE WHAT IT READS IS OF BULK AT MOST 1048576: true; the input reads as it did. -/
def fnExactMergeSpansUptoRow : OpenClaim := { program := "ytambgommeannnaa", sum := "2ad9f098627ebf00e90fe5be33e0e37598fe7e37359e51e6ba838bde29cf5317", func := "loop.example/g00900/laws.FnExactMergeSpans", spec := "fnExactMergeSpans", unfollowed := true, recurses := true, apart := false, narrowed := true }
def FnExactMergeSpansUptoSaid : Prop := fnExactMergeSpansUptoRow.holds Try.pinned (OpenSpec.upto fnExactMergeSpansSpec)

/-- 'laws.FnExactFreeSpans', WHERE WHAT IT READS IS OF BULK AT MOST 1048576: true; the input reads as it did. -/
def fnExactFreeSpansUptoRow : OpenClaim := { program := "ytambgommeannnaa", sum := "2ad9f098627ebf00e90fe5be33e0e37598fe7e37359e51e6ba838bde29cf5317", func := "loop.example/g00900/laws.FnExactFreeSpans", spec := "fnExactFreeSpans", unfollowed := true, recurses := true, apart := false, narrowed := true }
def FnExactFreeSpansUptoSaid : Prop := fnExactFreeSpansUptoRow.holds Try.pinned (OpenSpec.upto fnExactFreeSpansSpec)

/-- 'laws.FnExactShiftTrip', WHERE WHAT IT READS IS OF BULK AT MOST 1048576: true; the input reads as it did. -/
def fnExactShiftTripUptoRow : OpenClaim := { program := "ytambgommeannnaa", sum := "2ad9f098627ebf00e90fe5be33e0e37598fe7e37359e51e6ba838bde29cf5317", func := "loop.example/g00900/laws.FnExactShiftTrip", spec := "fnExactShiftTrip", unfollowed := true, recurses := true, apart := false, narrowed := true }
def FnExactShiftTripUptoSaid : Prop := fnExactShiftTripUptoRow.holds Try.pinned (OpenSpec.upto fnExactShiftTripSpec)

/-- 'laws.FnExactRemoveTrip', WHERE WHAT IT READS IS OF BULK AT MOST 1048576: true; the input reads as it did. -/
def fnExactRemoveTripUptoRow : OpenClaim := { program := "ytambgommeannnaa", sum := "2ad9f098627ebf00e90fe5be33e0e37598fe7e37359e51e6ba838bde29cf5317", func := "loop.example/g00900/laws.FnExactRemoveTrip", spec := "fnExactRemoveTrip", unfollowed := true, recurses := true, apart := false, narrowed := true }
def FnExactRemoveTripUptoSaid : Prop := fnExactRemoveTripUptoRow.holds Try.pinned (OpenSpec.upto fnExactRemoveTripSpec)

/-- 'laws.FnExactHeadwaysOf', WHERE WHAT IT READS IS OF BULK AT MOST 1048576: true; the input reads as it did. -/
def fnExactHeadwaysOfUptoRow : OpenClaim := { program := "ytambgommeannnaa", sum := "2ad9f098627ebf00e90fe5be33e0e37598fe7e37359e51e6ba838bde29cf5317", func := "loop.example/g00900/laws.FnExactHeadwaysOf", spec := "fnExactHeadwaysOf", unfollowed := true, recurses := true, apart := false, narrowed := true }
def FnExactHeadwaysOfUptoSaid : Prop := fnExactHeadwaysOfUptoRow.holds Try.pinned (OpenSpec.upto fnExactHeadwaysOfSpec)

/-- 'laws.FnExactAddTrip', WHERE WHAT IT READS IS OF BULK AT MOST 1048576: true; the input reads as it did. -/
def fnExactAddTripUptoRow : OpenClaim := { program := "ytambgommeannnaa", sum := "2ad9f098627ebf00e90fe5be33e0e37598fe7e37359e51e6ba838bde29cf5317", func := "loop.example/g00900/laws.FnExactAddTrip", spec := "fnExactAddTrip", inPlace := ["slices.overlaps[loop.example/g00900/impl.Trip]"], apart := false, narrowed := true }
def FnExactAddTripUptoSaid : Prop := fnExactAddTripUptoRow.holds Try.pinned (OpenSpec.upto fnExactAddTripSpec)

/-- 'laws.FnExactRepeatTrips', WHERE WHAT IT READS IS OF BULK AT MOST 1048576: true; the input reads as it did. -/
def fnExactRepeatTripsUptoRow : OpenClaim := { program := "ytambgommeannnaa", sum := "2ad9f098627ebf00e90fe5be33e0e37598fe7e37359e51e6ba838bde29cf5317", func := "loop.example/g00900/laws.FnExactRepeatTrips", spec := "fnExactRepeatTrips", inPlace := ["slices.overlaps[loop.example/g00900/impl.Trip]"], unfollowed := true, recurses := true, apart := false, narrowed := true }
def FnExactRepeatTripsUptoSaid : Prop := fnExactRepeatTripsUptoRow.holds Try.pinned (OpenSpec.upto fnExactRepeatTripsSpec)

end Rows
end Go.Proofs.Ytambgommeannnaa
