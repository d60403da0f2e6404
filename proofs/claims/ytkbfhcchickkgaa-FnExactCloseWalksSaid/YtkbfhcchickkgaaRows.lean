/-
  No cell of these rows narrows 'for every input' (looked for: loops, veiled, ifaces, maps, wideKeys, modest, calm, conditions, laid).
  DERIVED. THE GIVEN ROWS OF THIS SEAT. 9 by the template 'for every input the law returns true; each argument reads behind the call as it read before'; 0 by the template 'total and deterministic' (their statements: YtkbfhcchickkgaaTotals.lean).
  GIVEN WITH THE SEED: the statements are not yours to turn. If you find one false, say at which input.
  Laid BY PROGRAM, IN A SANDBOX (cutbox-rows.mjs): the forced cells as the released guide's own fill.sh prints them over the translation 3d6ef43e6ee4e71b… (all of the seat's roots in one cut). By AI agents, Wed Nov 11 2026. No macro, syntax, notation, axiom, sorry.
-/
import Derived.Test.YtkbfhcchickkgaaChecked
import GoSem.Claim
import GoSem.ClaimJoined
import GoSem.ClaimMapViews
import Derived.JoinedTies
import Derived.KernelRfl
namespace Go.Proofs.Ytkbfhcchickkgaa
/- THE CELL 'sum', in the pinned program and in every row, IS THE sha256 OF THE DUMP (.gsa) THAT YtkbfhcchickkgaaProg.lean LOADS. Nothing in Lean hashes anything: it is a label: what it is worth is what the hold of that sum in a sandbox is worth. -/
noncomputable def Try.pinned : Pinned := { name := "ytkbfhcchickkgaa", sum := "3d6ef43e6ee4e71beb9a94273f9e7baa6654599df5b8940044743f857de88ef3", checked := Try.checked }
namespace Rows
def none {H : Type} : Left H := { results := [], args := [] }

/-- 'laws.FnExactWalkingTimes': WHATEVER THE INPUT: true; the input reads as it did. -/
def fnExactWalkingTimesSpec : ChangeSpec := { name := "fnExactWalkingTimes", fn := fun _ => fun
  | [d1, d2, d3] => { results := [.lit (.bool true)], args := [d1, d2, d3] }
  | _ => none }
def fnExactWalkingTimesRow : OpenClaim := { program := "ytkbfhcchickkgaa", sum := "3d6ef43e6ee4e71beb9a94273f9e7baa6654599df5b8940044743f857de88ef3", func := "loop.example/g00900/laws.FnExactWalkingTimes", spec := "fnExactWalkingTimes", apart := false }
def FnExactWalkingTimesSaid : Prop := fnExactWalkingTimesRow.holds Try.pinned (OpenSpec.ofChange fnExactWalkingTimesSpec)

/-- ITS FALSE NEIGHBOUR: 'it returns false'. Refute it at one input. -/
def fnExactWalkingTimesWrong : ChangeSpec := { name := "fnExactWalkingTimes", fn := fun _ => fun
  | [d1, d2, d3] => { results := [.lit (.bool false)], args := [d1, d2, d3] }
  | _ => none }
def FnExactWalkingTimesWrongFalsely : Prop := fnExactWalkingTimesRow.holds Try.pinned (OpenSpec.ofChange fnExactWalkingTimesWrong)

/-- 'laws.FnExactUselessWalks': WHATEVER THE INPUT: true; the input reads as it did. -/
def fnExactUselessWalksSpec : ChangeSpec := { name := "fnExactUselessWalks", fn := fun _ => fun
  | [d1, d2] => { results := [.lit (.bool true)], args := [d1, d2] }
  | _ => none }
def fnExactUselessWalksRow : OpenClaim := { program := "ytkbfhcchickkgaa", sum := "3d6ef43e6ee4e71beb9a94273f9e7baa6654599df5b8940044743f857de88ef3", func := "loop.example/g00900/laws.FnExactUselessWalks", spec := "fnExactUselessWalks", apart := false }
def FnExactUselessWalksSaid : Prop := fnExactUselessWalksRow.holds Try.pinned (OpenSpec.ofChange fnExactUselessWalksSpec)

/-- ITS FALSE NEIGHBOUR: 'it returns false'. Refute it at one input. -/
def fnExactUselessWalksWrong : ChangeSpec := { name := "fnExactUselessWalks", fn := fun _ => fun
  | [d1, d2] => { results := [.lit (.bool false)], args := [d1, d2] }
  | _ => none }
def FnExactUselessWalksWrongFalsely : Prop := fnExactUselessWalksRow.holds Try.pinned (OpenSpec.ofChange fnExactUselessWalksWrong)

/-- 'laws.FnExactCloseWalks': WHATEVER THE INPUT: true; the input reads as it did. -/
def fnExactCloseWalksSpec : ChangeSpec := { name := "fnExactCloseWalks", fn := fun _ => fun
  | [d1, d2] => { results := [.lit (.bool true)], args := [d1, d2] }
  | _ => none }
def fnExactCloseWalksRow : OpenClaim := { program := "ytkbfhcchickkgaa", sum := "3d6ef43e6ee4e71beb9a94273f9e7baa6654599df5b8940044743f857de88ef3", func := "loop.example/g00900/laws.FnExactCloseWalks", spec := "fnExactCloseWalks", apart := false }
def FnExactCloseWalksSaid : Prop := fnExactCloseWalksRow.holds Try.pinned (OpenSpec.ofChange fnExactCloseWalksSpec)

/-- ITS FALSE NEIGHBOUR: 'it returns false'. Refute it at one input. -/
def fnExactCloseWalksWrong : ChangeSpec := { name := "fnExactCloseWalks", fn := fun _ => fun
  | [d1, d2] => { results := [.lit (.bool false)], args := [d1, d2] }
  | _ => none }
def FnExactCloseWalksWrongFalsely : Prop := fnExactCloseWalksRow.holds Try.pinned (OpenSpec.ofChange fnExactCloseWalksWrong)

/-- 'laws.FnExactWalkGroups': WHATEVER THE INPUT: true; the input reads as it did. -/
def fnExactWalkGroupsSpec : ChangeSpec := { name := "fnExactWalkGroups", fn := fun _ => fun
  | [d1, d2, d3] => { results := [.lit (.bool true)], args := [d1, d2, d3] }
  | _ => none }
def fnExactWalkGroupsRow : OpenClaim := { program := "ytkbfhcchickkgaa", sum := "3d6ef43e6ee4e71beb9a94273f9e7baa6654599df5b8940044743f857de88ef3", func := "loop.example/g00900/laws.FnExactWalkGroups", spec := "fnExactWalkGroups", apart := false }
def FnExactWalkGroupsSaid : Prop := fnExactWalkGroupsRow.holds Try.pinned (OpenSpec.ofChange fnExactWalkGroupsSpec)

/-- ITS FALSE NEIGHBOUR: 'it returns false'. Refute it at one input. -/
def fnExactWalkGroupsWrong : ChangeSpec := { name := "fnExactWalkGroups", fn := fun _ => fun
  | [d1, d2, d3] => { results := [.lit (.bool false)], args := [d1, d2, d3] }
  | _ => none }
def FnExactWalkGroupsWrongFalsely : Prop := fnExactWalkGroupsRow.holds Try.pinned (OpenSpec.ofChange fnExactWalkGroupsWrong)

/-- 'laws.FnExactShortestWalk': WHATEVER THE INPUT: true; the input reads as it did. -/
def fnExactShortestWalkSpec : ChangeSpec := { name := "fnExactShortestWalk", fn := fun _ => fun
  | [d1, d2, d3, d4] => { results := [.lit (.bool true)], args := [d1, d2, d3, d4] }
  | _ => none }
def fnExactShortestWalkRow : OpenClaim := { program := "ytkbfhcchickkgaa", sum := "3d6ef43e6ee4e71beb9a94273f9e7baa6654599df5b8940044743f857de88ef3", func := "loop.example/g00900/laws.FnExactShortestWalk", spec := "fnExactShortestWalk", unfollowed := true, recurses := true, apart := false }
def FnExactShortestWalkSaid : Prop := fnExactShortestWalkRow.holds Try.pinned (OpenSpec.ofChange fnExactShortestWalkSpec)

/-- ITS FALSE NEIGHBOUR: 'it returns false'. Refute it at one input. -/
def fnExactShortestWalkWrong : ChangeSpec := { name := "fnExactShortestWalk", fn := fun _ => fun
  | [d1, d2, d3, d4] => { results := [.lit (.bool false)], args := [d1, d2, d3, d4] }
  | _ => none }
def FnExactShortestWalkWrongFalsely : Prop := fnExactShortestWalkRow.holds Try.pinned (OpenSpec.ofChange fnExactShortestWalkWrong)

/-- 'laws.FnExactHeadwaysOf': WHATEVER THE INPUT: true; the input reads as it did. -/
def fnExactHeadwaysOfSpec : ChangeSpec := { name := "fnExactHeadwaysOf", fn := fun _ => fun
  | [d1, d2] => { results := [.lit (.bool true)], args := [d1, d2] }
  | _ => none }
def fnExactHeadwaysOfRow : OpenClaim := { program := "ytkbfhcchickkgaa", sum := "3d6ef43e6ee4e71beb9a94273f9e7baa6654599df5b8940044743f857de88ef3", func := "loop.example/g00900/laws.FnExactHeadwaysOf", spec := "fnExactHeadwaysOf", unfollowed := true, recurses := true, apart := false }
def FnExactHeadwaysOfSaid : Prop := fnExactHeadwaysOfRow.holds Try.pinned (OpenSpec.ofChange fnExactHeadwaysOfSpec)

/-- ITS FALSE NEIGHBOUR: 'it returns false'. Refute it at one input. -/
def fnExactHeadwaysOfWrong : ChangeSpec := { name := "fnExactHeadwaysOf", fn := fun _ => fun
  | [d1, d2] => { results := [.lit (.bool false)], args := [d1, d2] }
  | _ => none }
def FnExactHeadwaysOfWrongFalsely : Prop := fnExactHeadwaysOfRow.holds Try.pinned (OpenSpec.ofChange fnExactHeadwaysOfWrong)

/-- 'laws.FnExactTotalMinutes': WHATEVER THE INPUT: true; the input reads as it did. -/
def fnExactTotalMinutesSpec : ChangeSpec := { name := "fnExactTotalMinutes", fn := fun _ => fun
  | [d] => { results := [.lit (.bool true)], args := [d] }
  | _ => none }
def fnExactTotalMinutesRow : OpenClaim := { program := "ytkbfhcchickkgaa", sum := "3d6ef43e6ee4e71beb9a94273f9e7baa6654599df5b8940044743f857de88ef3", func := "loop.example/g00900/laws.FnExactTotalMinutes", spec := "fnExactTotalMinutes", unfollowed := true, recurses := true, apart := false }
def FnExactTotalMinutesSaid : Prop := fnExactTotalMinutesRow.holds Try.pinned (OpenSpec.ofChange fnExactTotalMinutesSpec)

/-- ITS FALSE NEIGHBOUR: 'it returns false'. Refute it at one input. -/
def fnExactTotalMinutesWrong : ChangeSpec := { name := "fnExactTotalMinutes", fn := fun _ => fun
  | [d] => { results := [.lit (.bool false)], args := [d] }
  | _ => none }
def FnExactTotalMinutesWrongFalsely : Prop := fnExactTotalMinutesRow.holds Try.pinned (OpenSpec.ofChange fnExactTotalMinutesWrong)

/-- 'laws.FnExactMergeSpans': WHATEVER THE INPUT: true; the input reads as it did. -/
def fnExactMergeSpansSpec : ChangeSpec := { name := "fnExactMergeSpans", fn := fun _ => fun
  | [d] => { results := [.lit (.bool true)], args := [d] }
  | _ => none }
def fnExactMergeSpansRow : OpenClaim := { program := "ytkbfhcchickkgaa", sum := "3d6ef43e6ee4e71beb9a94273f9e7baa6654599df5b8940044743f857de88ef3", func := "loop.example/g00900/laws.FnExactMergeSpans", spec := "fnExactMergeSpans", unfollowed := true, recurses := true, apart := false }
def FnExactMergeSpansSaid : Prop := fnExactMergeSpansRow.holds Try.pinned (OpenSpec.ofChange fnExactMergeSpansSpec)

/-- ITS FALSE NEIGHBOUR: 'it returns false'. Refute it at one input. -/
def fnExactMergeSpansWrong : ChangeSpec := { name := "fnExactMergeSpans", fn := fun _ => fun
  | [d] => { results := [.lit (.bool false)], args := [d] }
  | _ => none }
def FnExactMergeSpansWrongFalsely : Prop := fnExactMergeSpansRow.holds Try.pinned (OpenSpec.ofChange fnExactMergeSpansWrong)

/-- 'laws.FnExactFreeSpans': WHATEVER THE INPUT: true; the input reads as it did. -/
def fnExactFreeSpansSpec : ChangeSpec := { name := "fnExactFreeSpans", fn := fun _ => fun
  | [d1, d2] => { results := [.lit (.bool true)], args := [d1, d2] }
  | _ => none }
def fnExactFreeSpansRow : OpenClaim := { program := "ytkbfhcchickkgaa", sum := "3d6ef43e6ee4e71beb9a94273f9e7baa6654599df5b8940044743f857de88ef3", func := "loop.example/g00900/laws.FnExactFreeSpans", spec := "fnExactFreeSpans", unfollowed := true, recurses := true, apart := false }
def FnExactFreeSpansSaid : Prop := fnExactFreeSpansRow.holds Try.pinned (OpenSpec.ofChange fnExactFreeSpansSpec)

/-- ITS FALSE NEIGHBOUR: 'it returns false'. Refute it at one input. -/
def fnExactFreeSpansWrong : ChangeSpec := { name := "fnExactFreeSpans", fn := fun _ => fun
  | [d1, d2] => { results := [.lit (.bool false)], args := [d1, d2] }
  | _ => none }
def FnExactFreeSpansWrongFalsely : Prop := fnExactFreeSpansRow.holds Try.pinned (OpenSpec.ofChange fnExactFreeSpansWrong)

/- THE SECOND FORM. 'bulk': how many values and letters a reading holds, each counted each time it is reached (what is shared counts as often as it is met; a slice's spare places count too). A statement '..UptoSaid' is the law's where the arguments, and the package variables that the reading takes, are together of bulk at most 1048576: NARROWER than '..Said'. Prove '..Said' where nothing that the law and all that it calls make is longer than what came in: it says more and counts as full. Else prove '..UptoSaid'. A law counts once. -/
mutual
def uptoBulk {H : Type} : DataW H → Nat
  | .lit (.string bytes) => bytes.length + 1
  | .lit _ => 1
  | .nil => 1
  | .ptr d => uptoBulk d + 1
  | .slice elems spare => uptoBulkAll elems + uptoBulkAll spare + 1
  | .agg parts => uptoBulkAll parts + 1
  | .iface _ d => uptoBulk d + 1
  | .map entries => uptoBulkEntries entries + 1
  | .held _ => 1
def uptoBulkAll {H : Type} : List (DataW H) → Nat
  | [] => 0
  | d :: r => uptoBulk d + uptoBulkAll r
def uptoBulkEntries {H : Type} : List (Lit × DataW H) → Nat
  | [] => 0
  | x :: r => uptoBulkEntry x + uptoBulkEntries r
def uptoBulkEntry {H : Type} : Lit × DataW H → Nat
  | (.string bytes, d) => bytes.length + uptoBulk d + 1
  | (_, d) => uptoBulk d + 1
 end
def uptoSmall : (H : Type) → List (DataW H) → Bool := fun _ ds => decide (uptoBulkAll ds ≤ 1048576)
def OpenSpec.upto (s : _root_.Go.ChangeSpec) : _root_.Go.OpenSpec := { _root_.Go.OpenSpec.ofChange s with cond := some uptoSmall }

/-- 'laws.FnExactWalkingTimes', WHERE WHAT IT READS IS OF BULK AT MOST 1048576: true; the input reads as it did. -/
def fnExactWalkingTimesUptoRow : OpenClaim := { program := "ytkbfhcchickkgaa", sum := "3d6ef43e6ee4e71beb9a94273f9e7baa6654599df5b8940044743f857de88ef3", func := "loop.example/g00900/laws.FnExactWalkingTimes", spec := "fnExactWalkingTimes", apart := false, narrowed := true }
def FnExactWalkingTimesUptoSaid : Prop := fnExactWalkingTimesUptoRow.holds Try.pinned (OpenSpec.upto fnExactWalkingTimesSpec)

/-- 'laws.FnExactUselessWalks', WHERE WHAT IT READS IS OF BULK AT MOST 1048576: true; the input reads as it did. -/
def fnExactUselessWalksUptoRow : OpenClaim := { program := "ytkbfhcchickkgaa", sum := "3d6ef43e6ee4e71beb9a94273f9e7baa6654599df5b8940044743f857de88ef3", func := "loop.example/g00900/laws.FnExactUselessWalks", spec := "fnExactUselessWalks", apart := false, narrowed := true }
def FnExactUselessWalksUptoSaid : Prop := fnExactUselessWalksUptoRow.holds Try.pinned (OpenSpec.upto fnExactUselessWalksSpec)

/-- 'laws.FnExactCloseWalks', WHERE WHAT IT READS IS OF BULK AT MOST 1048576: true; the input reads as it did. -/
def fnExactCloseWalksUptoRow : OpenClaim := { program := "ytkbfhcchickkgaa", sum := "3d6ef43e6ee4e71beb9a94273f9e7baa6654599df5b8940044743f857de88ef3", func := "loop.example/g00900/laws.FnExactCloseWalks", spec := "fnExactCloseWalks", apart := false, narrowed := true }
def FnExactCloseWalksUptoSaid : Prop := fnExactCloseWalksUptoRow.holds Try.pinned (OpenSpec.upto fnExactCloseWalksSpec)

/-- 'laws.FnExactWalkGroups', WHERE WHAT IT READS IS OF BULK AT MOST 1048576: true; the input reads as it did. -/
def fnExactWalkGroupsUptoRow : OpenClaim := { program := "ytkbfhcchickkgaa", sum := "3d6ef43e6ee4e71beb9a94273f9e7baa6654599df5b8940044743f857de88ef3", func := "loop.example/g00900/laws.FnExactWalkGroups", spec := "fnExactWalkGroups", apart := false, narrowed := true }
def FnExactWalkGroupsUptoSaid : Prop := fnExactWalkGroupsUptoRow.holds Try.pinned (OpenSpec.upto fnExactWalkGroupsSpec)

/-- 'laws.FnExactShortestWalk', WHERE WHAT IT READS IS OF BULK AT MOST 1048576: true; the input reads as it did. -/
def fnExactShortestWalkUptoRow : OpenClaim := { program := "ytkbfhcchickkgaa", sum := "3d6ef43e6ee4e71beb9a94273f9e7baa6654599df5b8940044743f857de88ef3", func := "loop.example/g00900/laws.FnExactShortestWalk", spec := "fnExactShortestWalk", unfollowed := true, recurses := true, apart := false, narrowed := true }
def FnExactShortestWalkUptoSaid : Prop := fnExactShortestWalkUptoRow.holds Try.pinned (OpenSpec.upto fnExactShortestWalkSpec)

/-- 'laws.FnExactHeadwaysOf', WHERE WHAT IT READS IS OF BULK AT MOST 1048576: true; the input reads as it did. -/
def fnExactHeadwaysOfUptoRow : OpenClaim := { program := "ytkbfhcchickkgaa", sum := "3d6ef43e6ee4e71beb9a94273f9e7baa6654599df5b8940044743f857de88ef3", func := "loop.example/g00900/laws.FnExactHeadwaysOf", spec := "fnExactHeadwaysOf", unfollowed := true, recurses := true, apart := false, narrowed := true }
def FnExactHeadwaysOfUptoSaid : Prop := fnExactHeadwaysOfUptoRow.holds Try.pinned (OpenSpec.upto fnExactHeadwaysOfSpec)

/-- 'laws.FnExactTotalMinutes', WHERE WHAT IT READS IS OF BULK AT MOST 1048576: true; the input reads as it did. -/
def fnExactTotalMinutesUptoRow : OpenClaim := { program := "ytkbfhcchickkgaa", sum := "3d6ef43e6ee4e71beb9a94273f9e7baa6654599df5b8940044743f857de88ef3", func := "loop.example/g00900/laws.FnExactTotalMinutes", spec := "fnExactTotalMinutes", unfollowed := true, recurses := true, apart := false, narrowed := true }
def FnExactTotalMinutesUptoSaid : Prop := fnExactTotalMinutesUptoRow.holds Try.pinned (OpenSpec.upto fnExactTotalMinutesSpec)

/-- 'laws.FnExactMergeSpans', WHERE WHAT IT READS IS OF BULK AT MOST 1048576: true; the input reads as it did. -/
def fnExactMergeSpansUptoRow : OpenClaim := { program := "ytkbfhcchickkgaa", sum := "3d6ef43e6ee4e71beb9a94273f9e7baa6654599df5b8940044743f857de88ef3", func := "loop.example/g00900/laws.FnExactMergeSpans", spec := "fnExactMergeSpans", unfollowed := true, recurses := true, apart := false, narrowed := true }
def FnExactMergeSpansUptoSaid : Prop := fnExactMergeSpansUptoRow.holds Try.pinned (OpenSpec.upto fnExactMergeSpansSpec)

/-- 'laws.FnExactFreeSpans', WHERE WHAT IT READS IS OF BULK AT MOST 1048576: true; the input reads as it did. -/
def fnExactFreeSpansUptoRow : OpenClaim := { program := "ytkbfhcchickkgaa", sum := "3d6ef43e6ee4e71beb9a94273f9e7baa6654599df5b8940044743f857de88ef3", func := "loop.example/g00900/laws.FnExactFreeSpans", spec := "fnExactFreeSpans", unfollowed := true, recurses := true, apart := false, narrowed := true }
def FnExactFreeSpansUptoSaid : Prop := fnExactFreeSpansUptoRow.holds Try.pinned (OpenSpec.upto fnExactFreeSpansSpec)

end Rows
end Go.Proofs.Ytkbfhcchickkgaa
