/-
  No cell of these rows narrows 'for every input' (looked for: loops, veiled, ifaces, maps, wideKeys, modest, calm, conditions, laid).
  DERIVED. THE GIVEN ROWS OF THIS SEAT. 10 by the template 'for every input the law returns true; each argument reads behind the call as it read before'; 0 by the template 'total and deterministic' (their statements: YthhlgaonlpppfaaTotals.lean).
  GIVEN WITH THE SEED: the statements are not yours to turn. If you find one false, say at which input.
  Laid BY PROGRAM, IN A SANDBOX (cutbox-rows.mjs): the forced cells as the released guide's own fill.sh prints them over the translation 02f0b23de73e1f7d… (all of the seat's roots in one cut). By AI agents, Wed Nov 11 2026. No macro, syntax, notation, axiom, sorry.
-/
import Derived.Test.YthhlgaonlpppfaaChecked
import GoSem.Claim
import GoSem.ClaimJoined
import GoSem.ClaimMapViews
import Derived.JoinedTies
import Derived.KernelRfl
namespace Go.Proofs.Ythhlgaonlpppfaa
/- THE CELL 'sum', in the pinned program and in every row, IS THE sha256 OF THE DUMP (.gsa) THAT YthhlgaonlpppfaaProg.lean LOADS. Nothing in Lean hashes anything: it is a label: what it is worth is what the hold of that sum in a sandbox is worth. -/
noncomputable def Try.pinned : Pinned := { name := "ythhlgaonlpppfaa", sum := "02f0b23de73e1f7d9c472643e8ea7719f024f81c02f72cb248921881f2410016", checked := Try.checked }
namespace Rows
def none {H : Type} : Left H := { results := [], args := [] }

/-- 'laws.FnExactRunsOn': WHATEVER THE INPUT: true; the input reads as it did. -/
def fnExactRunsOnSpec : ChangeSpec := { name := "fnExactRunsOn", fn := fun _ => fun
  | [d1, d2] => { results := [.lit (.bool true)], args := [d1, d2] }
  | _ => none }
def fnExactRunsOnRow : OpenClaim := { program := "ythhlgaonlpppfaa", sum := "02f0b23de73e1f7d9c472643e8ea7719f024f81c02f72cb248921881f2410016", func := "loop.example/g00900/laws.FnExactRunsOn", spec := "fnExactRunsOn", apart := false }
def FnExactRunsOnSaid : Prop := fnExactRunsOnRow.holds Try.pinned (OpenSpec.ofChange fnExactRunsOnSpec)

/-- ITS FALSE NEIGHBOUR: 'it returns false'. Refute it at one input. -/
def fnExactRunsOnWrong : ChangeSpec := { name := "fnExactRunsOn", fn := fun _ => fun
  | [d1, d2] => { results := [.lit (.bool false)], args := [d1, d2] }
  | _ => none }
def FnExactRunsOnWrongFalsely : Prop := fnExactRunsOnRow.holds Try.pinned (OpenSpec.ofChange fnExactRunsOnWrong)

/-- 'laws.FnExactCountDays': WHATEVER THE INPUT: true; the input reads as it did. -/
def fnExactCountDaysSpec : ChangeSpec := { name := "fnExactCountDays", fn := fun _ => fun
  | [d] => { results := [.lit (.bool true)], args := [d] }
  | _ => none }
def fnExactCountDaysRow : OpenClaim := { program := "ythhlgaonlpppfaa", sum := "02f0b23de73e1f7d9c472643e8ea7719f024f81c02f72cb248921881f2410016", func := "loop.example/g00900/laws.FnExactCountDays", spec := "fnExactCountDays", apart := false }
def FnExactCountDaysSaid : Prop := fnExactCountDaysRow.holds Try.pinned (OpenSpec.ofChange fnExactCountDaysSpec)

/-- ITS FALSE NEIGHBOUR: 'it returns false'. Refute it at one input. -/
def fnExactCountDaysWrong : ChangeSpec := { name := "fnExactCountDays", fn := fun _ => fun
  | [d] => { results := [.lit (.bool false)], args := [d] }
  | _ => none }
def FnExactCountDaysWrongFalsely : Prop := fnExactCountDaysRow.holds Try.pinned (OpenSpec.ofChange fnExactCountDaysWrong)

/-- 'laws.FnExactNextRun': WHATEVER THE INPUT: true; the input reads as it did. -/
def fnExactNextRunSpec : ChangeSpec := { name := "fnExactNextRun", fn := fun _ => fun
  | [d1, d2] => { results := [.lit (.bool true)], args := [d1, d2] }
  | _ => none }
def fnExactNextRunRow : OpenClaim := { program := "ythhlgaonlpppfaa", sum := "02f0b23de73e1f7d9c472643e8ea7719f024f81c02f72cb248921881f2410016", func := "loop.example/g00900/laws.FnExactNextRun", spec := "fnExactNextRun", apart := false }
def FnExactNextRunSaid : Prop := fnExactNextRunRow.holds Try.pinned (OpenSpec.ofChange fnExactNextRunSpec)

/-- ITS FALSE NEIGHBOUR: 'it returns false'. Refute it at one input. -/
def fnExactNextRunWrong : ChangeSpec := { name := "fnExactNextRun", fn := fun _ => fun
  | [d1, d2] => { results := [.lit (.bool false)], args := [d1, d2] }
  | _ => none }
def FnExactNextRunWrongFalsely : Prop := fnExactNextRunRow.holds Try.pinned (OpenSpec.ofChange fnExactNextRunWrong)

/-- 'laws.FnExactCommonDays': WHATEVER THE INPUT: true; the input reads as it did. -/
def fnExactCommonDaysSpec : ChangeSpec := { name := "fnExactCommonDays", fn := fun _ => fun
  | [d1, d2] => { results := [.lit (.bool true)], args := [d1, d2] }
  | _ => none }
def fnExactCommonDaysRow : OpenClaim := { program := "ythhlgaonlpppfaa", sum := "02f0b23de73e1f7d9c472643e8ea7719f024f81c02f72cb248921881f2410016", func := "loop.example/g00900/laws.FnExactCommonDays", spec := "fnExactCommonDays", apart := false }
def FnExactCommonDaysSaid : Prop := fnExactCommonDaysRow.holds Try.pinned (OpenSpec.ofChange fnExactCommonDaysSpec)

/-- ITS FALSE NEIGHBOUR: 'it returns false'. Refute it at one input. -/
def fnExactCommonDaysWrong : ChangeSpec := { name := "fnExactCommonDays", fn := fun _ => fun
  | [d1, d2] => { results := [.lit (.bool false)], args := [d1, d2] }
  | _ => none }
def FnExactCommonDaysWrongFalsely : Prop := fnExactCommonDaysRow.holds Try.pinned (OpenSpec.ofChange fnExactCommonDaysWrong)

/-- 'laws.FnExactFitCalendar': WHATEVER THE INPUT: true; the input reads as it did. -/
def fnExactFitCalendarSpec : ChangeSpec := { name := "fnExactFitCalendar", fn := fun _ => fun
  | [d1, d2, d3] => { results := [.lit (.bool true)], args := [d1, d2, d3] }
  | _ => none }
def fnExactFitCalendarRow : OpenClaim := { program := "ythhlgaonlpppfaa", sum := "02f0b23de73e1f7d9c472643e8ea7719f024f81c02f72cb248921881f2410016", func := "loop.example/g00900/laws.FnExactFitCalendar", spec := "fnExactFitCalendar", apart := false }
def FnExactFitCalendarSaid : Prop := fnExactFitCalendarRow.holds Try.pinned (OpenSpec.ofChange fnExactFitCalendarSpec)

/-- ITS FALSE NEIGHBOUR: 'it returns false'. Refute it at one input. -/
def fnExactFitCalendarWrong : ChangeSpec := { name := "fnExactFitCalendar", fn := fun _ => fun
  | [d1, d2, d3] => { results := [.lit (.bool false)], args := [d1, d2, d3] }
  | _ => none }
def FnExactFitCalendarWrongFalsely : Prop := fnExactFitCalendarRow.holds Try.pinned (OpenSpec.ofChange fnExactFitCalendarWrong)

/-- 'laws.FnExactJoinStrings': WHATEVER THE INPUT: true; the input reads as it did. -/
def fnExactJoinStringsSpec : ChangeSpec := { name := "fnExactJoinStrings", fn := fun _ => fun
  | [d1, d2] => { results := [.lit (.bool true)], args := [d1, d2] }
  | _ => none }
def fnExactJoinStringsRow : OpenClaim := { program := "ythhlgaonlpppfaa", sum := "02f0b23de73e1f7d9c472643e8ea7719f024f81c02f72cb248921881f2410016", func := "loop.example/g00900/laws.FnExactJoinStrings", spec := "fnExactJoinStrings", inPlace := ["internal/bytealg.IndexByteString", "internal/bytealg.IndexString", "internal/abi.NoEscape", "internal/bytealg.MakeNoZero"], named := ["internal/bytealg.MaxLen"], apart := false }
def FnExactJoinStringsSaid : Prop := fnExactJoinStringsRow.holds Try.pinned (OpenSpec.ofChange fnExactJoinStringsSpec)

/-- ITS FALSE NEIGHBOUR: 'it returns false'. Refute it at one input. -/
def fnExactJoinStringsWrong : ChangeSpec := { name := "fnExactJoinStrings", fn := fun _ => fun
  | [d1, d2] => { results := [.lit (.bool false)], args := [d1, d2] }
  | _ => none }
def FnExactJoinStringsWrongFalsely : Prop := fnExactJoinStringsRow.holds Try.pinned (OpenSpec.ofChange fnExactJoinStringsWrong)

/-- 'laws.FnExactIsValidNetwork': WHATEVER THE INPUT: true; the input reads as it did. -/
def fnExactIsValidNetworkSpec : ChangeSpec := { name := "fnExactIsValidNetwork", fn := fun _ => fun
  | [d] => { results := [.lit (.bool true)], args := [d] }
  | _ => none }
def fnExactIsValidNetworkRow : OpenClaim := { program := "ythhlgaonlpppfaa", sum := "02f0b23de73e1f7d9c472643e8ea7719f024f81c02f72cb248921881f2410016", func := "loop.example/g00900/laws.FnExactIsValidNetwork", spec := "fnExactIsValidNetwork", apart := false }
def FnExactIsValidNetworkSaid : Prop := fnExactIsValidNetworkRow.holds Try.pinned (OpenSpec.ofChange fnExactIsValidNetworkSpec)

/-- ITS FALSE NEIGHBOUR: 'it returns false'. Refute it at one input. -/
def fnExactIsValidNetworkWrong : ChangeSpec := { name := "fnExactIsValidNetwork", fn := fun _ => fun
  | [d] => { results := [.lit (.bool false)], args := [d] }
  | _ => none }
def FnExactIsValidNetworkWrongFalsely : Prop := fnExactIsValidNetworkRow.holds Try.pinned (OpenSpec.ofChange fnExactIsValidNetworkWrong)

/-- 'laws.FnExactLineNumber': WHATEVER THE INPUT: true; the input reads as it did. -/
def fnExactLineNumberSpec : ChangeSpec := { name := "fnExactLineNumber", fn := fun _ => fun
  | [d1, d2] => { results := [.lit (.bool true)], args := [d1, d2] }
  | _ => none }
def fnExactLineNumberRow : OpenClaim := { program := "ythhlgaonlpppfaa", sum := "02f0b23de73e1f7d9c472643e8ea7719f024f81c02f72cb248921881f2410016", func := "loop.example/g00900/laws.FnExactLineNumber", spec := "fnExactLineNumber", apart := false }
def FnExactLineNumberSaid : Prop := fnExactLineNumberRow.holds Try.pinned (OpenSpec.ofChange fnExactLineNumberSpec)

/-- ITS FALSE NEIGHBOUR: 'it returns false'. Refute it at one input. -/
def fnExactLineNumberWrong : ChangeSpec := { name := "fnExactLineNumber", fn := fun _ => fun
  | [d1, d2] => { results := [.lit (.bool false)], args := [d1, d2] }
  | _ => none }
def FnExactLineNumberWrongFalsely : Prop := fnExactLineNumberRow.holds Try.pinned (OpenSpec.ofChange fnExactLineNumberWrong)

/-- 'laws.FnExactStopNumber': WHATEVER THE INPUT: true; the input reads as it did. -/
def fnExactStopNumberSpec : ChangeSpec := { name := "fnExactStopNumber", fn := fun _ => fun
  | [d1, d2] => { results := [.lit (.bool true)], args := [d1, d2] }
  | _ => none }
def fnExactStopNumberRow : OpenClaim := { program := "ythhlgaonlpppfaa", sum := "02f0b23de73e1f7d9c472643e8ea7719f024f81c02f72cb248921881f2410016", func := "loop.example/g00900/laws.FnExactStopNumber", spec := "fnExactStopNumber", apart := false }
def FnExactStopNumberSaid : Prop := fnExactStopNumberRow.holds Try.pinned (OpenSpec.ofChange fnExactStopNumberSpec)

/-- ITS FALSE NEIGHBOUR: 'it returns false'. Refute it at one input. -/
def fnExactStopNumberWrong : ChangeSpec := { name := "fnExactStopNumber", fn := fun _ => fun
  | [d1, d2] => { results := [.lit (.bool false)], args := [d1, d2] }
  | _ => none }
def FnExactStopNumberWrongFalsely : Prop := fnExactStopNumberRow.holds Try.pinned (OpenSpec.ofChange fnExactStopNumberWrong)

/-- 'laws.FnExactRunTime': WHATEVER THE INPUT: true; the input reads as it did. -/
def fnExactRunTimeSpec : ChangeSpec := { name := "fnExactRunTime", fn := fun _ => fun
  | [d1, d2, d3, d4] => { results := [.lit (.bool true)], args := [d1, d2, d3, d4] }
  | _ => none }
def fnExactRunTimeRow : OpenClaim := { program := "ythhlgaonlpppfaa", sum := "02f0b23de73e1f7d9c472643e8ea7719f024f81c02f72cb248921881f2410016", func := "loop.example/g00900/laws.FnExactRunTime", spec := "fnExactRunTime", apart := false }
def FnExactRunTimeSaid : Prop := fnExactRunTimeRow.holds Try.pinned (OpenSpec.ofChange fnExactRunTimeSpec)

/-- ITS FALSE NEIGHBOUR: 'it returns false'. Refute it at one input. -/
def fnExactRunTimeWrong : ChangeSpec := { name := "fnExactRunTime", fn := fun _ => fun
  | [d1, d2, d3, d4] => { results := [.lit (.bool false)], args := [d1, d2, d3, d4] }
  | _ => none }
def FnExactRunTimeWrongFalsely : Prop := fnExactRunTimeRow.holds Try.pinned (OpenSpec.ofChange fnExactRunTimeWrong)

/- THE SECOND FORM. 'bulk': how many values and letters a reading holds, each counted each time it is reached (what is shared counts as often as it is met; a slice's spare places count too). A statement '..UptoSaid' is the law's where the arguments, and the package variables that the reading takes, are together of bulk at most 1048576: NARROWER than '..Said'. Prove '..Said' where nothing that the law and all that it calls make is longer than what came in: it says more and counts as full. Else prove '..UptoSaid'. A law counts once. -/
mutual
def uptoBulk {H : Type} : DataW H → Nat
  | .lit (.string bytes) => bytes.length + 1
  | .lit _ => 1
  | .nil => 1
  | .ptr d => uptoBulk d + 1
  | .slice elems spare => uptoBulkAll elems + uptoBulkAll spare + 1
  | .agg parts => uptoBulkAll parts + 1
  | .iface _ d => uptoBulk d + 1
  | .map entries => uptoBulkEntries entries + 1
  | .held _ => 1
def uptoBulkAll {H : Type} : List (DataW H) → Nat
  | [] => 0
  | d :: r => uptoBulk d + uptoBulkAll r
def uptoBulkEntries {H : Type} : List (Lit × DataW H) → Nat
  | [] => 0
  | x :: r => uptoBulkEntry x + uptoBulkEntries r
def uptoBulkEntry {H : Type} : Lit × DataW H → Nat
  | (.string bytes, d) => bytes.length + uptoBulk d + 1
  | (_, d) => uptoBulk d + 1
 end
def uptoSmall : (H : Type) → List (DataW H) → Bool := fun _ ds => decide (uptoBulkAll ds ≤ 1048576)
def OpenSpec.upto (s : _root_.Go.ChangeSpec) : _root_.Go.OpenSpec := { _root_.Go.OpenSpec.ofChange s with cond := some uptoSmall }

/-- 'laws.FnExactRunsOn', WHERE WHAT IT READS IS OF BULK AT MOST 1048576: true; the input reads as it did. -/
def fnExactRunsOnUptoRow : OpenClaim := { program := "ythhlgaonlpppfaa", sum := "02f0b23de73e1f7d9c472643e8ea7719f024f81c02f72cb248921881f2410016", func := "loop.example/g00900/laws.FnExactRunsOn", spec := "fnExactRunsOn", apart := false, narrowed := true }
def FnExactRunsOnUptoSaid : Prop := fnExactRunsOnUptoRow.holds Try.pinned (OpenSpec.upto fnExactRunsOnSpec)

/-- 'laws.FnExactCountDays', WHERE WHAT IT READS IS OF BULK AT MOST 1048576: true; the input reads as it did. -/
def fnExactCountDaysUptoRow : OpenClaim := { program := "ythhlgaonlpppfaa", sum := "02f0b23de73e1f7d9c472643e8ea7719f024f81c02f72cb248921881f2410016", func := "loop.example/g00900/laws.FnExactCountDays", spec := "fnExactCountDays", apart := false, narrowed := true }
def FnExactCountDaysUptoSaid : Prop := fnExactCountDaysUptoRow.holds Try.pinned (OpenSpec.upto fnExactCountDaysSpec)

/-- 'laws.FnExactNextRun', WHERE WHAT IT READS IS OF BULK AT MOST 1048576: true; the input reads as it did. -/
def fnExactNextRunUptoRow : OpenClaim := { program := "ythhlgaonlpppfaa", sum := "02f0b23de73e1f7d9c472643e8ea7719f024f81c02f72cb248921881f2410016", func := "loop.example/g00900/laws.FnExactNextRun", spec := "fnExactNextRun", apart := false, narrowed := true }
def FnExactNextRunUptoSaid : Prop := fnExactNextRunUptoRow.holds Try.pinned (OpenSpec.upto fnExactNextRunSpec)

/-- 'laws.FnExactCommonDays', WHERE WHAT IT READS IS OF BULK AT MOST 1048576: true; the input reads as it did. -/
def fnExactCommonDaysUptoRow : OpenClaim := { program := "ythhlgaonlpppfaa", sum := "02f0b23de73e1f7d9c472643e8ea7719f024f81c02f72cb248921881f2410016", func := "loop.example/g00900/laws.FnExactCommonDays", spec := "fnExactCommonDays", apart := false, narrowed := true }
def FnExactCommonDaysUptoSaid : Prop := fnExactCommonDaysUptoRow.holds Try.pinned (OpenSpec.upto fnExactCommonDaysSpec)

/-- 'laws.FnExactFitCalendar', WHERE WHAT IT READS IS OF BULK AT MOST 1048576: true; the input reads as it did. -/
def fnExactFitCalendarUptoRow : OpenClaim := { program := "ythhlgaonlpppfaa", sum := "02f0b23de73e1f7d9c472643e8ea7719f024f81c02f72cb248921881f2410016", func := "loop.example/g00900/laws.FnExactFitCalendar", spec := "fnExactFitCalendar", apart := false, narrowed := true }
def FnExactFitCalendarUptoSaid : Prop := fnExactFitCalendarUptoRow.holds Try.pinned (OpenSpec.upto fnExactFitCalendarSpec)

/-- 'laws.FnExactJoinStrings', WHERE WHAT IT READS IS OF BULK AT MOST 1048576: true; the input reads as it did. -/
def fnExactJoinStringsUptoRow : OpenClaim := { program := "ythhlgaonlpppfaa", sum := "02f0b23de73e1f7d9c472643e8ea7719f024f81c02f72cb248921881f2410016", func := "loop.example/g00900/laws.FnExactJoinStrings", spec := "fnExactJoinStrings", inPlace := ["internal/bytealg.IndexByteString", "internal/bytealg.IndexString", "internal/abi.NoEscape", "internal/bytealg.MakeNoZero"], named := ["internal/bytealg.MaxLen"], apart := false, narrowed := true }
def FnExactJoinStringsUptoSaid : Prop := fnExactJoinStringsUptoRow.holds Try.pinned (OpenSpec.upto fnExactJoinStringsSpec)

/-- 'laws.FnExactIsValidNetwork', WHERE WHAT IT READS IS OF BULK AT MOST 1048576: true; the input reads as it did. -/
def fnExactIsValidNetworkUptoRow : OpenClaim := { program := "ythhlgaonlpppfaa", sum := "02f0b23de73e1f7d9c472643e8ea7719f024f81c02f72cb248921881f2410016", func := "loop.example/g00900/laws.FnExactIsValidNetwork", spec := "fnExactIsValidNetwork", apart := false, narrowed := true }
def FnExactIsValidNetworkUptoSaid : Prop := fnExactIsValidNetworkUptoRow.holds Try.pinned (OpenSpec.upto fnExactIsValidNetworkSpec)

/-- 'laws.FnExactLineNumber', WHERE WHAT IT READS IS OF BULK AT MOST 1048576: true; the input reads as it did. -/
def fnExactLineNumberUptoRow : OpenClaim := { program := "ythhlgaonlpppfaa", sum := "02f0b23de73e1f7d9c472643e8ea7719f024f81c02f72cb248921881f2410016", func := "loop.example/g00900/laws.FnExactLineNumber", spec := "fnExactLineNumber", apart := false, narrowed := true }
def FnExactLineNumberUptoSaid : Prop := fnExactLineNumberUptoRow.holds Try.pinned (OpenSpec.upto fnExactLineNumberSpec)

/-- 'laws.FnExactStopNumber', WHERE WHAT IT READS IS OF BULK AT MOST 1048576: true; the input reads as it did. -/
def fnExactStopNumberUptoRow : OpenClaim := { program := "ythhlgaonlpppfaa", sum := "02f0b23de73e1f7d9c472643e8ea7719f024f81c02f72cb248921881f2410016", func := "loop.example/g00900/laws.FnExactStopNumber", spec := "fnExactStopNumber", apart := false, narrowed := true }
def FnExactStopNumberUptoSaid : Prop := fnExactStopNumberUptoRow.holds Try.pinned (OpenSpec.upto fnExactStopNumberSpec)

/-- 'laws.FnExactRunTime', WHERE WHAT IT READS IS OF BULK AT MOST 1048576: true; the input reads as it did. -/
def fnExactRunTimeUptoRow : OpenClaim := { program := "ythhlgaonlpppfaa", sum := "02f0b23de73e1f7d9c472643e8ea7719f024f81c02f72cb248921881f2410016", func := "loop.example/g00900/laws.FnExactRunTime", spec := "fnExactRunTime", apart := false, narrowed := true }
def FnExactRunTimeUptoSaid : Prop := fnExactRunTimeUptoRow.holds Try.pinned (OpenSpec.upto fnExactRunTimeSpec)

end Rows
end Go.Proofs.Ythhlgaonlpppfaa
