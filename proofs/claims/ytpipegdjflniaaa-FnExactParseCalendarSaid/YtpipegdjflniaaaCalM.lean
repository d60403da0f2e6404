/- Words for calendars in memory. -/
import Derived.Test.YtpipegdjflniaaaCalC
import Derived.Test.YtpipegdjflniaaaCalD
namespace Go.Proofs.Ytpipegdjflniaaa
open Go.ChangeShapes Go.WideShapes Go.ChangeAt Go.RowKit Go.PlainAid
set_option linter.unusedVariables false

/-- The five cells of a calendar. -/
def Cal5 (W : World) (g : Nat) (f t d : Int) (A : Option Addr) (na ca : Nat) (R : Option Addr) (nr cr : Nat) : Prop :=
  W.cell? ⟨g, 0, none⟩ = some (.int .i64 f) ∧ W.cell? ⟨g, 1, none⟩ = some (.int .i64 t) ∧ W.cell? ⟨g, 2, none⟩ = some (.int .i64 d) ∧ W.cell? ⟨g, 3, none⟩ = some (.slice A na ca) ∧ W.cell? ⟨g, 4, none⟩ = some (.slice R nr cr)
theorem Cal5.below {W W' : World} {g : Nat} {f t d : Int} {A : Option Addr} {na ca : Nat} {R : Option Addr} {nr cr : Nat} {B : Nat} (h : Cal5 W g f t d A na ca R nr cr) (hb : Below B W W') (hg : g < B) : Cal5 W' g f t d A na ca R nr cr :=
  ⟨(hb.cell (p := ⟨g, 0, none⟩) hg).trans h.1, (hb.cell (p := ⟨g, 1, none⟩) hg).trans h.2.1, (hb.cell (p := ⟨g, 2, none⟩) hg).trans h.2.2.1, (hb.cell (p := ⟨g, 3, none⟩) hg).trans h.2.2.2.1, (hb.cell (p := ⟨g, 4, none⟩) hg).trans h.2.2.2.2⟩

/-- What the laws know of a calendar that came in. -/
def LCal (W : World) (v : Value) (x : (Int × Int × Int) × (List Int × List Int)) : Prop :=
  ∃ A ca R cr, v = .agg #[.int .i64 x.1.1, .int .i64 x.1.2.1, .int .i64 x.1.2.2, .slice A x.2.1.length ca, .slice R x.2.2.length cr] ∧ IntsAt W W.heap.size A x.2.1 ∧ IntsAt W W.heap.size R x.2.2 ∧ x.2.1.length ≤ 9223372036854775807 ∧ x.2.2.length ≤ 9223372036854775807

theorem szC_pos {na nr : Nat} (h : ¬ szC na nr 1048576 < 0) : na ≤ 1048576 ∧ nr ≤ 1048576 := by
  unfold szC szI at h
  constructor
  · rcases Nat.lt_or_ge 1048576 na with h1 | h1
    · rw [if_pos (by split <;> omega)] at h; omega
    · exact h1
  · rcases Nat.lt_or_ge 1048576 na with h1 | h1
    · rw [if_pos (by split <;> omega)] at h; omega
    · rcases Nat.lt_or_ge 1048576 nr with h2 | h2
      · rw [if_neg (by split <;> omega)] at h
        split at h <;> first | omega | (split at h <;> omega)
      · exact h2

end Go.Proofs.Ytpipegdjflniaaa
