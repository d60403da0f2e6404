/- FormatNetwork: contracts. -/
import Derived.Test.YtgakmmjbdejmdaaDoorFmb
import Derived.Test.YtgakmmjbdejmdaaDoorFmc
namespace Go.Proofs.YtgakmmjbdejmdaaDoor
open Go.ChangeShapes Go.WideShapes Go.ChangeAt Go.RowKit Go.PlainAid
set_option linter.unusedVariables false
set_option linter.unusedSimpArgs false

/-- The answer of FormatNetwork. -/
def fnS (x : NetD) : ByteArray := if netB x = true then netT x else ⟨#[]⟩
theorem fnS_no {x : NetD} (h : netB x = false) : fnS x = ⟨#[]⟩ := by unfold fnS; rw [h]; rfl
theorem fnS_yes {x : NetD} (h : netB x = true) : fnS x = netT x := by unfold fnS; rw [if_pos h]
set_option maxRecDepth 100000 in
set_option maxHeartbeats 1000000 in
theorem specFormatNetwork_any (x : NetD) (A L : Option Addr) (ca cl : Nat) (w : World) (hA : StrsIn w (Zone.below w.heap.size) A x.stops) (hL : LinesIn w (Zone.below w.heap.size) L x.lines) (hx : Fits x) :
    Calls Tryd.prog 23 #[.agg #[.slice A x.stops.length ca, .slice L x.lines.length cl]] w fun e w' => e = .returned (.tuple #[.string (fnS x), .bool (netB x)]) ∧ Below w.heap.size w w' := by
  have H0 : Hid (NetBox w (w.alloc (.cells #[.slice A x.stops.length ca, .slice L x.lines.length cl] 44)) w.heap.size x A ca L cl) := Lib.hid (NetBox.box hA hL)
  skip
  clear hA hL
  cases g : netB x
  · have HS := Lib.hid (fnS_no g)
    go_enter Tryd.func23, Tryd.ntmps23
    go_wp2_with fail
    refine (l2Good_any x _ _ _ _ _ H0.out.stops H0.out.lines hx).mono ?_
    rintro e w1 ⟨rfl, hb1⟩
    have H1 := Lib.hid (H0.out.call hb1)
    clear hb1
    go_wp2_with fail
    go_ret2
    exact ⟨retSB HS.out.symm rfl, H1.out.bel⟩
  · have HS := Lib.hid (fnS_yes g)
    have HG := Lib.hid g
    go_enter Tryd.func23, Tryd.ntmps23
    go_wp2_with fail
    refine (l2Good_any x _ _ _ _ _ H0.out.stops H0.out.lines hx).mono ?_
    rintro e w1 ⟨rfl, hb1⟩
    have H1 := Lib.hid (H0.out.call hb1)
    clear hb1
    obtain ⟨c0, c1⟩ := H1.out.cells
    go_wp2_with fail
    refine (l6Network_any x _ _ _ _ _ H1.out.stops H1.out.lines hx HG.out).mono ?_
    rintro e w2 ⟨rfl, hb2⟩
    have H2 := Lib.hid (H1.out.call hb2)
    clear hb2 c0 c1
    go_wp2_with fail
    go_ret2
    exact ⟨retSB HS.out.symm rfl, H2.out.bel⟩
set_option maxRecDepth 100000 in
set_option maxHeartbeats 1000000 in
theorem implFormatNetwork_any (x : NetD) (A L : Option Addr) (ca cl : Nat) (w : World) (hA : StrsIn w (Zone.below w.heap.size) A x.stops) (hL : LinesIn w (Zone.below w.heap.size) L x.lines) (hx : Fits x) (HT0 : Pow10 w) :
    Calls Tryd.prog 25 #[.agg #[.slice A x.stops.length ca, .slice L x.lines.length cl]] w fun e w' => e = .returned (.tuple #[.string (fnS x), .bool (netB x)]) ∧ Below w.heap.size w w' := by
  have H0 : Hid (NetBox w (w.alloc (.cells #[.slice A x.stops.length ca, .slice L x.lines.length cl] 44)) w.heap.size x A ca L cl) := Lib.hid (NetBox.box hA hL)
  have HT := Lib.hid HT0
  clear hA hL HT0
  cases g : netB x
  · have HS := Lib.hid (fnS_no g)
    go_enter Tryd.func25, Tryd.ntmps25
    go_wp2_with fail
    refine (isValidNetwork_any x _ _ _ _ _ H0.out.stops H0.out.lines hx).mono ?_
    rintro e w1 ⟨rfl, hb1⟩
    have H1 := Lib.hid (H0.out.call hb1)
    clear hb1
    go_wp2_with fail
    go_ret2
    exact ⟨retSB HS.out.symm rfl, H1.out.bel⟩
  · have HS := Lib.hid (fnS_yes g)
    have HG := Lib.hid g
    go_enter Tryd.func25, Tryd.ntmps25
    go_wp2_with fail
    refine (isValidNetwork_any x _ _ _ _ _ H0.out.stops H0.out.lines hx).mono ?_
    rintro e w1 ⟨rfl, hb1⟩
    have H1 := Lib.hid (H0.out.call hb1)
    clear hb1
    obtain ⟨c0, c1⟩ := H1.out.cells
    go_wp2_with fail
    refine (formatNetwork_any x _ _ _ _ _ H1.out.stops H1.out.lines hx HG.out (HT.out.call H1.out.bel)).mono ?_
    rintro e w2 ⟨rfl, hb2⟩
    have H2 := Lib.hid (H1.out.call hb2)
    clear hb2 c0 c1
    go_wp2_with fail
    go_ret2
    exact ⟨retSB HS.out.symm rfl, H2.out.bel⟩
end Go.Proofs.YtgakmmjbdejmdaaDoor
