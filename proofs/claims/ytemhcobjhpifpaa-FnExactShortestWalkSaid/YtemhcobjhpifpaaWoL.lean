/- The walk of the law of IsValidWalks. -/
import Derived.Test.YtemhcobjhpifpaaWos
import Derived.Test.YtemhcobjhpifpaaLnA
namespace Go.Proofs.Ytemhcobjhpifpaa
open Go.ChangeShapes Go.WideShapes Go.ChangeAt Go.RowKit Go.PlainAid
set_option linter.unusedVariables false

theorem implIsValidWalks_any (x : NetD) (A L V : Option Addr) (ca cl cv : Nat) (xs : List I3) (w : World) (hA : StrsIn w (Zone.below w.heap.size) A x.stops) (hL : LinesIn w (Zone.below w.heap.size) L x.lines) (hV : I3sIn w (Zone.below w.heap.size) V xs) (hx : Fits x) (hv : xs.length ≤ 1048576) :
    Calls Try.prog 25 #[.agg #[.slice A x.stops.length ca, .slice L x.lines.length cl], .slice V xs.length cv] w fun e w' => e = .returned (.bool (netB x && walksB x.stops.length xs)) ∧ Below w.heap.size w w' := by
  have H0 : Hid (NetBox w (w.alloc (.cells #[.slice A x.stops.length ca, .slice L x.lines.length cl] 34)) w.heap.size x A ca L cl) := Lib.hid (NetBox.box hA hL)
  have HV0 := Lib.hid (hV.call H0.out.bel)
  have hn := hx.stops
  clear hA hL hV
  cases g0 : netB x
  all_goals
    go_enter Try.func25, Try.ntmps25
    go_wp2_with fail
    refine (isValidNetwork_any x _ _ _ _ _ H0.out.stops H0.out.lines hx).mono ?_
    rintro e w1 ⟨rfl, hb1⟩
    have H1 := Lib.hid (H0.out.call hb1)
    have HV1 := Lib.hid (HV0.out.call hb1)
    clear hb1
    obtain ⟨c0, c1⟩ := H1.out.cells
    go_wp2_with fail
  · go_ret
    exact ⟨retB rfl, H1.out.bel⟩
  · refine (areWalks_any x _ _ _ _ _ _ xs _ HV1.out hn hv).mono ?_
    rintro e w2 ⟨rfl, hb2⟩
    have H2 := Lib.hid (H1.out.call hb2)
    clear hb2
    go_wp2_with fail
    go_ret
    exact ⟨retB rfl, H2.out.bel⟩

end Go.Proofs.Ytemhcobjhpifpaa
