/- FormatTimetable: contracts. -/
import Derived.Test.YtdiffepokiabkaaDoorFtb
import Derived.Test.YtdiffepokiabkaaDoorFtc
namespace Go.Proofs.YtdiffepokiabkaaDoor
open Go.ChangeShapes Go.WideShapes Go.ChangeAt Go.RowKit Go.PlainAid
set_option linter.unusedVariables false
set_option linter.unusedSimpArgs false

/-- The answer of FormatTimetable. -/
def ftS (x : TTD) : ByteArray := if ttB x = true then timT x else ⟨#[]⟩
theorem ftS_no {x : TTD} (h : ttB x = false) : ftS x = ⟨#[]⟩ := by unfold ftS; rw [h]; rfl
theorem ftS_yes {x : TTD} (h : ttB x = true) : ftS x = timT x := by unfold ftS; rw [if_pos h]
set_option maxRecDepth 100000 in
set_option maxHeartbeats 1000000 in
theorem specFormatTimetable_any (x : TTD) (A L T : Option Addr) (ca cl ct : Nat) (w : World) (hA : StrsIn w (Zone.below w.heap.size) A x.net.stops) (hL : LinesIn w (Zone.below w.heap.size) L x.net.lines) (hT : I3sIn w (Zone.below w.heap.size) T x.trips) (hx : FitsT x) :
    Calls Tryd.prog 24 #[.agg #[.slice A x.net.stops.length ca, .slice L x.net.lines.length cl, .slice T x.trips.length ct]] w fun e w' => e = .returned (.tuple #[.string (ftS x), .bool (ttB x)]) ∧ Below w.heap.size w w' := by
  have H0 : Hid (TtBox w (w.alloc (.cells #[.slice A x.net.stops.length ca, .slice L x.net.lines.length cl, .slice T x.trips.length ct] 33)) w.heap.size x A ca L cl T ct) := Lib.hid (TtBox.box hA hL hT)
  clear hA hL hT
  cases g : ttB x
  · have HS := Lib.hid (ftS_no g)
    go_enter Tryd.func24, Tryd.ntmps24
    go_wp2_with fail
    refine (l5Good_any x _ _ _ _ _ _ _ H0.out.stops H0.out.lines H0.out.trips hx).mono ?_
    rintro e w1 ⟨rfl, hb1⟩
    have H1 := Lib.hid (H0.out.call hb1)
    clear hb1
    go_wp2_with fail
    go_ret2
    exact ⟨retSB HS.out.symm rfl, H1.out.bel⟩
  · have HS := Lib.hid (ftS_yes g)
    have HG := Lib.hid g
    go_enter Tryd.func24, Tryd.ntmps24
    go_wp2_with fail
    refine (l5Good_any x _ _ _ _ _ _ _ H0.out.stops H0.out.lines H0.out.trips hx).mono ?_
    rintro e w1 ⟨rfl, hb1⟩
    have H1 := Lib.hid (H0.out.call hb1)
    clear hb1
    obtain ⟨c0, c1, c2⟩ := H1.out.cells
    go_wp2_with fail
    refine (l6Timetable_any x _ _ _ _ _ _ _ H1.out.stops H1.out.lines H1.out.trips hx HG.out).mono ?_
    rintro e w2 ⟨rfl, hb2⟩
    have H2 := Lib.hid (H1.out.call hb2)
    clear hb2 c0 c1 c2
    go_wp2_with fail
    go_ret2
    exact ⟨retSB HS.out.symm rfl, H2.out.bel⟩
set_option maxRecDepth 100000 in
set_option maxHeartbeats 1000000 in
theorem implFormatTimetable_any (x : TTD) (A L T : Option Addr) (ca cl ct : Nat) (w : World) (hA : StrsIn w (Zone.below w.heap.size) A x.net.stops) (hL : LinesIn w (Zone.below w.heap.size) L x.net.lines) (hT : I3sIn w (Zone.below w.heap.size) T x.trips) (hx : FitsT x) (HT0 : Pow10 w) :
    Calls Tryd.prog 26 #[.agg #[.slice A x.net.stops.length ca, .slice L x.net.lines.length cl, .slice T x.trips.length ct]] w fun e w' => e = .returned (.tuple #[.string (ftS x), .bool (ttB x)]) ∧ Below w.heap.size w w' := by
  have H0 : Hid (TtBox w (w.alloc (.cells #[.slice A x.net.stops.length ca, .slice L x.net.lines.length cl, .slice T x.trips.length ct] 33)) w.heap.size x A ca L cl T ct) := Lib.hid (TtBox.box hA hL hT)
  have HT := Lib.hid HT0
  clear HT0
  clear hA hL hT
  cases g : ttB x
  · have HS := Lib.hid (ftS_no g)
    go_enter Tryd.func26, Tryd.ntmps26
    go_wp2_with fail
    refine (isValidTimetable_any x _ _ _ _ _ _ _ H0.out.stops H0.out.lines H0.out.trips hx).mono ?_
    rintro e w1 ⟨rfl, hb1⟩
    have H1 := Lib.hid (H0.out.call hb1)
    clear hb1
    go_wp2_with fail
    go_ret2
    exact ⟨retSB HS.out.symm rfl, H1.out.bel⟩
  · have HS := Lib.hid (ftS_yes g)
    have HG := Lib.hid g
    go_enter Tryd.func26, Tryd.ntmps26
    go_wp2_with fail
    refine (isValidTimetable_any x _ _ _ _ _ _ _ H0.out.stops H0.out.lines H0.out.trips hx).mono ?_
    rintro e w1 ⟨rfl, hb1⟩
    have H1 := Lib.hid (H0.out.call hb1)
    clear hb1
    obtain ⟨c0, c1, c2⟩ := H1.out.cells
    go_wp2_with fail
    refine (formatTimetable_any x _ _ _ _ _ _ _ H1.out.stops H1.out.lines H1.out.trips hx HG.out (HT.out.call H1.out.bel)).mono ?_
    rintro e w2 ⟨rfl, hb2⟩
    have H2 := Lib.hid (H1.out.call hb2)
    clear hb2 c0 c1 c2
    go_wp2_with fail
    go_ret2
    exact ⟨retSB HS.out.symm rfl, H2.out.bel⟩
end Go.Proofs.YtdiffepokiabkaaDoor
