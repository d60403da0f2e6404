/-
  No cell of these rows narrows 'for every input' (looked for: loops, veiled, ifaces, maps, wideKeys, modest, calm, conditions, laid).
  DERIVED. THE GIVEN ROWS OF THIS SEAT. 11 by the template 'for every input the law returns true; each argument reads behind the call as it read before'; 0 by the template 'total and deterministic' (their statements: YtbigocmhneaogaaTotals.lean).
  GIVEN WITH THE SEED: the statements are not yours to turn. If you find one false, say at which input.
  Laid BY PROGRAM, IN A SANDBOX (cutbox-rows.mjs): the forced cells as the released guide's own fill.sh prints them over the translation 2e94646817b33a11… (all of the seat's roots in one cut). By AI agents, Wed Nov 11 2026. No macro, syntax, notation, axiom, sorry.
-/
import Derived.Test.YtbigocmhneaogaaChecked
import GoSem.Claim
import GoSem.ClaimJoined
import GoSem.ClaimMapViews
import Derived.JoinedTies
import Derived.KernelRfl
namespace Go.Proofs.Ytbigocmhneaogaa
/- THE CELL 'sum', in the pinned program and in every row, IS THE sha256 OF THE DUMP (.gsa) THAT YtbigocmhneaogaaProg.lean LOADS. Nothing in Lean hashes anything: it is a label: what it is worth is what the hold of that sum in a sandbox is worth. -/
noncomputable def Try.pinned : Pinned := { name := "ytbigocmhneaogaa", sum := "2e94646817b33a11fa8be793cc38c19d4798169a830df391ff373f0d29d6ff56", checked := Try.checked }
namespace Rows
def none {H : Type} : Left H := { results := [], args := [] }

/-- 'laws.FnExactConstants': WHATEVER THE INPUT: true; the input reads as it did. -/
def fnExactConstantsSpec : ChangeSpec := { name := "fnExactConstants", fn := fun _ => fun
  | [] => { results := [.lit (.bool true)], args := [] }
  | _ => none }
def fnExactConstantsRow : OpenClaim := { program := "ytbigocmhneaogaa", sum := "2e94646817b33a11fa8be793cc38c19d4798169a830df391ff373f0d29d6ff56", func := "loop.example/g00900/laws.FnExactConstants", spec := "fnExactConstants", apart := false }
def FnExactConstantsSaid : Prop := fnExactConstantsRow.holds Try.pinned (OpenSpec.ofChange fnExactConstantsSpec)

/-- ITS FALSE NEIGHBOUR: 'it returns false'. Refute it at one input. -/
def fnExactConstantsWrong : ChangeSpec := { name := "fnExactConstants", fn := fun _ => fun
  | [] => { results := [.lit (.bool false)], args := [] }
  | _ => none }
def FnExactConstantsWrongFalsely : Prop := fnExactConstantsRow.holds Try.pinned (OpenSpec.ofChange fnExactConstantsWrong)

/-- 'laws.FnExactLessString': WHATEVER THE INPUT: true; the input reads as it did. -/
def fnExactLessStringSpec : ChangeSpec := { name := "fnExactLessString", fn := fun _ => fun
  | [d1, d2] => { results := [.lit (.bool true)], args := [d1, d2] }
  | _ => none }
def fnExactLessStringRow : OpenClaim := { program := "ytbigocmhneaogaa", sum := "2e94646817b33a11fa8be793cc38c19d4798169a830df391ff373f0d29d6ff56", func := "loop.example/g00900/laws.FnExactLessString", spec := "fnExactLessString", apart := false }
def FnExactLessStringSaid : Prop := fnExactLessStringRow.holds Try.pinned (OpenSpec.ofChange fnExactLessStringSpec)

/-- ITS FALSE NEIGHBOUR: 'it returns false'. Refute it at one input. -/
def fnExactLessStringWrong : ChangeSpec := { name := "fnExactLessString", fn := fun _ => fun
  | [d1, d2] => { results := [.lit (.bool false)], args := [d1, d2] }
  | _ => none }
def FnExactLessStringWrongFalsely : Prop := fnExactLessStringRow.holds Try.pinned (OpenSpec.ofChange fnExactLessStringWrong)

/-- 'laws.FnExactIsValidTime': WHATEVER THE INPUT: true; the input reads as it did. -/
def fnExactIsValidTimeSpec : ChangeSpec := { name := "fnExactIsValidTime", fn := fun _ => fun
  | [d] => { results := [.lit (.bool true)], args := [d] }
  | _ => none }
def fnExactIsValidTimeRow : OpenClaim := { program := "ytbigocmhneaogaa", sum := "2e94646817b33a11fa8be793cc38c19d4798169a830df391ff373f0d29d6ff56", func := "loop.example/g00900/laws.FnExactIsValidTime", spec := "fnExactIsValidTime", apart := false }
def FnExactIsValidTimeSaid : Prop := fnExactIsValidTimeRow.holds Try.pinned (OpenSpec.ofChange fnExactIsValidTimeSpec)

/-- ITS FALSE NEIGHBOUR: 'it returns false'. Refute it at one input. -/
def fnExactIsValidTimeWrong : ChangeSpec := { name := "fnExactIsValidTime", fn := fun _ => fun
  | [d] => { results := [.lit (.bool false)], args := [d] }
  | _ => none }
def FnExactIsValidTimeWrongFalsely : Prop := fnExactIsValidTimeRow.holds Try.pinned (OpenSpec.ofChange fnExactIsValidTimeWrong)

/-- 'laws.FnExactClockTime': WHATEVER THE INPUT: true; the input reads as it did. -/
def fnExactClockTimeSpec : ChangeSpec := { name := "fnExactClockTime", fn := fun _ => fun
  | [d] => { results := [.lit (.bool true)], args := [d] }
  | _ => none }
def fnExactClockTimeRow : OpenClaim := { program := "ytbigocmhneaogaa", sum := "2e94646817b33a11fa8be793cc38c19d4798169a830df391ff373f0d29d6ff56", func := "loop.example/g00900/laws.FnExactClockTime", spec := "fnExactClockTime", unfollowed := true, recurses := true, apart := false }
def FnExactClockTimeSaid : Prop := fnExactClockTimeRow.holds Try.pinned (OpenSpec.ofChange fnExactClockTimeSpec)

/-- ITS FALSE NEIGHBOUR: 'it returns false'. Refute it at one input. -/
def fnExactClockTimeWrong : ChangeSpec := { name := "fnExactClockTime", fn := fun _ => fun
  | [d] => { results := [.lit (.bool false)], args := [d] }
  | _ => none }
def FnExactClockTimeWrongFalsely : Prop := fnExactClockTimeRow.holds Try.pinned (OpenSpec.ofChange fnExactClockTimeWrong)

/-- 'laws.FnExactFormatTime': WHATEVER THE INPUT: true; the input reads as it did. -/
def fnExactFormatTimeSpec : ChangeSpec := { name := "fnExactFormatTime", fn := fun _ => fun
  | [d] => { results := [.lit (.bool true)], args := [d] }
  | _ => none }
def fnExactFormatTimeRow : OpenClaim := { program := "ytbigocmhneaogaa", sum := "2e94646817b33a11fa8be793cc38c19d4798169a830df391ff373f0d29d6ff56", func := "loop.example/g00900/laws.FnExactFormatTime", spec := "fnExactFormatTime", unfollowed := true, recurses := true, apart := false }
def FnExactFormatTimeSaid : Prop := fnExactFormatTimeRow.holds Try.pinned (OpenSpec.ofChange fnExactFormatTimeSpec)

/-- ITS FALSE NEIGHBOUR: 'it returns false'. Refute it at one input. -/
def fnExactFormatTimeWrong : ChangeSpec := { name := "fnExactFormatTime", fn := fun _ => fun
  | [d] => { results := [.lit (.bool false)], args := [d] }
  | _ => none }
def FnExactFormatTimeWrongFalsely : Prop := fnExactFormatTimeRow.holds Try.pinned (OpenSpec.ofChange fnExactFormatTimeWrong)

/-- 'laws.FnExactChecksum': WHATEVER THE INPUT: true; the input reads as it did. -/
def fnExactChecksumSpec : ChangeSpec := { name := "fnExactChecksum", fn := fun _ => fun
  | [d] => { results := [.lit (.bool true)], args := [d] }
  | _ => none }
def fnExactChecksumRow : OpenClaim := { program := "ytbigocmhneaogaa", sum := "2e94646817b33a11fa8be793cc38c19d4798169a830df391ff373f0d29d6ff56", func := "loop.example/g00900/laws.FnExactChecksum", spec := "fnExactChecksum", apart := false }
def FnExactChecksumSaid : Prop := fnExactChecksumRow.holds Try.pinned (OpenSpec.ofChange fnExactChecksumSpec)

/-- ITS FALSE NEIGHBOUR: 'it returns false'. Refute it at one input. -/
def fnExactChecksumWrong : ChangeSpec := { name := "fnExactChecksum", fn := fun _ => fun
  | [d] => { results := [.lit (.bool false)], args := [d] }
  | _ => none }
def FnExactChecksumWrongFalsely : Prop := fnExactChecksumRow.holds Try.pinned (OpenSpec.ofChange fnExactChecksumWrong)

/-- 'laws.FnExactParseTime': WHATEVER THE INPUT: true; the input reads as it did. -/
def fnExactParseTimeSpec : ChangeSpec := { name := "fnExactParseTime", fn := fun _ => fun
  | [d] => { results := [.lit (.bool true)], args := [d] }
  | _ => none }
def fnExactParseTimeRow : OpenClaim := { program := "ytbigocmhneaogaa", sum := "2e94646817b33a11fa8be793cc38c19d4798169a830df391ff373f0d29d6ff56", func := "loop.example/g00900/laws.FnExactParseTime", spec := "fnExactParseTime", apart := false }
def FnExactParseTimeSaid : Prop := fnExactParseTimeRow.holds Try.pinned (OpenSpec.ofChange fnExactParseTimeSpec)

/-- ITS FALSE NEIGHBOUR: 'it returns false'. Refute it at one input. -/
def fnExactParseTimeWrong : ChangeSpec := { name := "fnExactParseTime", fn := fun _ => fun
  | [d] => { results := [.lit (.bool false)], args := [d] }
  | _ => none }
def FnExactParseTimeWrongFalsely : Prop := fnExactParseTimeRow.holds Try.pinned (OpenSpec.ofChange fnExactParseTimeWrong)

/-- 'laws.FnExactOverlapOf': WHATEVER THE INPUT: true; the input reads as it did. -/
def fnExactOverlapOfSpec : ChangeSpec := { name := "fnExactOverlapOf", fn := fun _ => fun
  | [d1, d2] => { results := [.lit (.bool true)], args := [d1, d2] }
  | _ => none }
def fnExactOverlapOfRow : OpenClaim := { program := "ytbigocmhneaogaa", sum := "2e94646817b33a11fa8be793cc38c19d4798169a830df391ff373f0d29d6ff56", func := "loop.example/g00900/laws.FnExactOverlapOf", spec := "fnExactOverlapOf", apart := false }
def FnExactOverlapOfSaid : Prop := fnExactOverlapOfRow.holds Try.pinned (OpenSpec.ofChange fnExactOverlapOfSpec)

/-- ITS FALSE NEIGHBOUR: 'it returns false'. Refute it at one input. -/
def fnExactOverlapOfWrong : ChangeSpec := { name := "fnExactOverlapOf", fn := fun _ => fun
  | [d1, d2] => { results := [.lit (.bool false)], args := [d1, d2] }
  | _ => none }
def FnExactOverlapOfWrongFalsely : Prop := fnExactOverlapOfRow.holds Try.pinned (OpenSpec.ofChange fnExactOverlapOfWrong)

/-- 'laws.FnExactParseInt': WHATEVER THE INPUT: true; the input reads as it did. -/
def fnExactParseIntSpec : ChangeSpec := { name := "fnExactParseInt", fn := fun _ => fun
  | [d] => { results := [.lit (.bool true)], args := [d] }
  | _ => none }
def fnExactParseIntRow : OpenClaim := { program := "ytbigocmhneaogaa", sum := "2e94646817b33a11fa8be793cc38c19d4798169a830df391ff373f0d29d6ff56", func := "loop.example/g00900/laws.FnExactParseInt", spec := "fnExactParseInt", recurses := true, apart := false }
def FnExactParseIntSaid : Prop := fnExactParseIntRow.holds Try.pinned (OpenSpec.ofChange fnExactParseIntSpec)

/-- ITS FALSE NEIGHBOUR: 'it returns false'. Refute it at one input. -/
def fnExactParseIntWrong : ChangeSpec := { name := "fnExactParseInt", fn := fun _ => fun
  | [d] => { results := [.lit (.bool false)], args := [d] }
  | _ => none }
def FnExactParseIntWrongFalsely : Prop := fnExactParseIntRow.holds Try.pinned (OpenSpec.ofChange fnExactParseIntWrong)

/-- 'laws.FnExactBusiestTime': WHATEVER THE INPUT: true; the input reads as it did. -/
def fnExactBusiestTimeSpec : ChangeSpec := { name := "fnExactBusiestTime", fn := fun _ => fun
  | [d] => { results := [.lit (.bool true)], args := [d] }
  | _ => none }
def fnExactBusiestTimeRow : OpenClaim := { program := "ytbigocmhneaogaa", sum := "2e94646817b33a11fa8be793cc38c19d4798169a830df391ff373f0d29d6ff56", func := "loop.example/g00900/laws.FnExactBusiestTime", spec := "fnExactBusiestTime", apart := false }
def FnExactBusiestTimeSaid : Prop := fnExactBusiestTimeRow.holds Try.pinned (OpenSpec.ofChange fnExactBusiestTimeSpec)

/-- ITS FALSE NEIGHBOUR: 'it returns false'. Refute it at one input. -/
def fnExactBusiestTimeWrong : ChangeSpec := { name := "fnExactBusiestTime", fn := fun _ => fun
  | [d] => { results := [.lit (.bool false)], args := [d] }
  | _ => none }
def FnExactBusiestTimeWrongFalsely : Prop := fnExactBusiestTimeRow.holds Try.pinned (OpenSpec.ofChange fnExactBusiestTimeWrong)

/-- 'laws.FnExactIsValidCalendar': WHATEVER THE INPUT: true; the input reads as it did. -/
def fnExactIsValidCalendarSpec : ChangeSpec := { name := "fnExactIsValidCalendar", fn := fun _ => fun
  | [d] => { results := [.lit (.bool true)], args := [d] }
  | _ => none }
def fnExactIsValidCalendarRow : OpenClaim := { program := "ytbigocmhneaogaa", sum := "2e94646817b33a11fa8be793cc38c19d4798169a830df391ff373f0d29d6ff56", func := "loop.example/g00900/laws.FnExactIsValidCalendar", spec := "fnExactIsValidCalendar", apart := false }
def FnExactIsValidCalendarSaid : Prop := fnExactIsValidCalendarRow.holds Try.pinned (OpenSpec.ofChange fnExactIsValidCalendarSpec)

/-- ITS FALSE NEIGHBOUR: 'it returns false'. Refute it at one input. -/
def fnExactIsValidCalendarWrong : ChangeSpec := { name := "fnExactIsValidCalendar", fn := fun _ => fun
  | [d] => { results := [.lit (.bool false)], args := [d] }
  | _ => none }
def FnExactIsValidCalendarWrongFalsely : Prop := fnExactIsValidCalendarRow.holds Try.pinned (OpenSpec.ofChange fnExactIsValidCalendarWrong)

/- THE SECOND FORM. 'bulk': how many values and letters a reading holds, each counted each time it is reached (what is shared counts as often as it is met; a slice's spare places count too). A statement '..UptoSaid' is the law's where the arguments, and the package variables that the reading takes, are together of bulk at most 1048576: NARROWER than '..Said'. Prove '..Said' where nothing that the law and all that it calls make is longer than what came in: it says more and counts as full. Else prove '..UptoSaid'. A law counts once. -/
mutual
def uptoBulk {H : Type} : DataW H → Nat
  | .lit (.string bytes) => bytes.length + 1
  | .lit _ => 1
  | .nil => 1
  | .ptr d => uptoBulk d + 1
  | .slice elems spare => uptoBulkAll elems + uptoBulkAll spare + 1
  | .agg parts => uptoBulkAll parts + 1
  | .iface _ d => uptoBulk d + 1
  | .map entries => uptoBulkEntries entries + 1
  | .held _ => 1
def uptoBulkAll {H : Type} : List (DataW H) → Nat
  | [] => 0
  | d :: r => uptoBulk d + uptoBulkAll r
def uptoBulkEntries {H : Type} : List (Lit × DataW H) → Nat
  | [] => 0
  | x :: r => uptoBulkEntry x + uptoBulkEntries r
def uptoBulkEntry {H : Type} : Lit × DataW H → Nat
  | (.string bytes, d) => bytes.length + uptoBulk d + 1
  | (_, d) => uptoBulk d + 1
 end
def uptoSmall : (H : Type) → List (DataW H) → Bool := fun _ ds => decide (uptoBulkAll ds ≤ 1048576)
def OpenSpec.upto (s : _root_.Go.ChangeSpec) : _root_.Go.OpenSpec := { _root_.Go.OpenSpec.ofChange s with cond := some uptoSmall }

/-- 'laws.FnExactConstants', WHERE WHAT IT READS IS OF BULK AT MOST 1048576: true; the input reads as it did. -/
def fnExactConstantsUptoRow : OpenClaim := { program := "ytbigocmhneaogaa", sum := "2e94646817b33a11fa8be793cc38c19d4798169a830df391ff373f0d29d6ff56", func := "loop.example/g00900/laws.FnExactConstants", spec := "fnExactConstants", apart := false, narrowed := true }
def FnExactConstantsUptoSaid : Prop := fnExactConstantsUptoRow.holds Try.pinned (OpenSpec.upto fnExactConstantsSpec)

/-- 'laws.FnExactLessString', WHERE WHAT IT READS IS OF BULK AT MOST 1048576: true; the input reads as it did. -/
def fnExactLessStringUptoRow : OpenClaim := { program := "ytbigocmhneaogaa", sum := "2e94646817b33a11fa8be793cc38c19d4798169a830df391ff373f0d29d6ff56", func := "loop.example/g00900/laws.FnExactLessString", spec := "fnExactLessString", apart := false, narrowed := true }
def FnExactLessStringUptoSaid : Prop := fnExactLessStringUptoRow.holds Try.pinned (OpenSpec.upto fnExactLessStringSpec)

/-- 'laws.FnExactIsValidTime', WHERE WHAT IT READS IS OF BULK AT MOST 1048576: true; the input reads as it did. -/
def fnExactIsValidTimeUptoRow : OpenClaim := { program := "ytbigocmhneaogaa", sum := "2e94646817b33a11fa8be793cc38c19d4798169a830df391ff373f0d29d6ff56", func := "loop.example/g00900/laws.FnExactIsValidTime", spec := "fnExactIsValidTime", apart := false, narrowed := true }
def FnExactIsValidTimeUptoSaid : Prop := fnExactIsValidTimeUptoRow.holds Try.pinned (OpenSpec.upto fnExactIsValidTimeSpec)

/-- 'laws.FnExactClockTime', WHERE WHAT IT READS IS OF BULK AT MOST 1048576: true; the input reads as it did. -/
def fnExactClockTimeUptoRow : OpenClaim := { program := "ytbigocmhneaogaa", sum := "2e94646817b33a11fa8be793cc38c19d4798169a830df391ff373f0d29d6ff56", func := "loop.example/g00900/laws.FnExactClockTime", spec := "fnExactClockTime", unfollowed := true, recurses := true, apart := false, narrowed := true }
def FnExactClockTimeUptoSaid : Prop := fnExactClockTimeUptoRow.holds Try.pinned (OpenSpec.upto fnExactClockTimeSpec)

/-- 'laws.FnExactFormatTime', WHERE WHAT IT READS IS OF BULK AT MOST 1048576: true; the input reads as it did. -/
def fnExactFormatTimeUptoRow : OpenClaim := { program := "ytbigocmhneaogaa", sum := "2e94646817b33a11fa8be793cc38c19d4798169a830df391ff373f0d29d6ff56", func := "loop.example/g00900/laws.FnExactFormatTime", spec := "fnExactFormatTime", unfollowed := true, recurses := true, apart := false, narrowed := true }
def FnExactFormatTimeUptoSaid : Prop := fnExactFormatTimeUptoRow.holds Try.pinned (OpenSpec.upto fnExactFormatTimeSpec)

/-- 'laws.FnExactChecksum', WHERE WHAT IT READS IS OF BULK AT MOST 1048576: true; the input reads as it did. -/
def fnExactChecksumUptoRow : OpenClaim := { program := "ytbigocmhneaogaa", sum := "2e94646817b33a11fa8be793cc38c19d4798169a830df391ff373f0d29d6ff56", func := "loop.example/g00900/laws.FnExactChecksum", spec := "fnExactChecksum", apart := false, narrowed := true }
def FnExactChecksumUptoSaid : Prop := fnExactChecksumUptoRow.holds Try.pinned (OpenSpec.upto fnExactChecksumSpec)

/-- 'laws.FnExactParseTime', WHERE WHAT IT READS IS OF BULK AT MOST 1048576: true; the input reads as it did. -/
def fnExactParseTimeUptoRow : OpenClaim := { program := "ytbigocmhneaogaa", sum := "2e94646817b33a11fa8be793cc38c19d4798169a830df391ff373f0d29d6ff56", func := "loop.example/g00900/laws.FnExactParseTime", spec := "fnExactParseTime", apart := false, narrowed := true }
def FnExactParseTimeUptoSaid : Prop := fnExactParseTimeUptoRow.holds Try.pinned (OpenSpec.upto fnExactParseTimeSpec)

/-- 'laws.FnExactOverlapOf', WHERE WHAT IT READS IS OF BULK AT MOST 1048576: true; the input reads as it did. -/
def fnExactOverlapOfUptoRow : OpenClaim := { program := "ytbigocmhneaogaa", sum := "2e94646817b33a11fa8be793cc38c19d4798169a830df391ff373f0d29d6ff56", func := "loop.example/g00900/laws.FnExactOverlapOf", spec := "fnExactOverlapOf", apart := false, narrowed := true }
def FnExactOverlapOfUptoSaid : Prop := fnExactOverlapOfUptoRow.holds Try.pinned (OpenSpec.upto fnExactOverlapOfSpec)

/-- 'laws.FnExactParseInt', WHERE WHAT IT READS IS OF BULK AT MOST 1048576: true; the input reads as it did. -/
def fnExactParseIntUptoRow : OpenClaim := { program := "ytbigocmhneaogaa", sum := "2e94646817b33a11fa8be793cc38c19d4798169a830df391ff373f0d29d6ff56", func := "loop.example/g00900/laws.FnExactParseInt", spec := "fnExactParseInt", recurses := true, apart := false, narrowed := true }
def FnExactParseIntUptoSaid : Prop := fnExactParseIntUptoRow.holds Try.pinned (OpenSpec.upto fnExactParseIntSpec)

/-- 'laws.FnExactBusiestTime', WHERE WHAT IT READS IS OF BULK AT MOST 1048576: true; the input reads as it did. -/
def fnExactBusiestTimeUptoRow : OpenClaim := { program := "ytbigocmhneaogaa", sum := "2e94646817b33a11fa8be793cc38c19d4798169a830df391ff373f0d29d6ff56", func := "loop.example/g00900/laws.FnExactBusiestTime", spec := "fnExactBusiestTime", apart := false, narrowed := true }
def FnExactBusiestTimeUptoSaid : Prop := fnExactBusiestTimeUptoRow.holds Try.pinned (OpenSpec.upto fnExactBusiestTimeSpec)

/-- 'laws.FnExactIsValidCalendar', WHERE WHAT IT READS IS OF BULK AT MOST 1048576: true; the input reads as it did. -/
def fnExactIsValidCalendarUptoRow : OpenClaim := { program := "ytbigocmhneaogaa", sum := "2e94646817b33a11fa8be793cc38c19d4798169a830df391ff373f0d29d6ff56", func := "loop.example/g00900/laws.FnExactIsValidCalendar", spec := "fnExactIsValidCalendar", apart := false, narrowed := true }
def FnExactIsValidCalendarUptoSaid : Prop := fnExactIsValidCalendarUptoRow.holds Try.pinned (OpenSpec.upto fnExactIsValidCalendarSpec)

end Rows
end Go.Proofs.Ytbigocmhneaogaa
