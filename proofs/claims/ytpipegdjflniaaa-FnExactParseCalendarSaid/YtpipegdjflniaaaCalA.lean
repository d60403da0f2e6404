/- Contracts of the laws' functions on calendars: size, copy, comparison. -/
import Derived.Test.YtpipegdjflniaaaInA
namespace Go.Proofs.Ytpipegdjflniaaa
open Go.ChangeShapes Go.WideShapes Go.ChangeAt Go.RowKit Go.PlainAid
set_option linter.unusedVariables false

/-- What szCalendar leaves. -/
def szC (na nr : Nat) (left : Int) : Int := if szI na left < 0 then -1 else szI nr (szI na left)
/-- A calendar's value: three numbers, two slices. -/
abbrev calV (f t d : Int) (A : Option Addr) (na ca : Nat) (R : Option Addr) (nr cr : Nat) : Value := .agg #[.int .i64 f, .int .i64 t, .int .i64 d, .slice A na ca, .slice R nr cr]

/-- A calendar in new memory. -/
def NewCal (f t d : Int) (us vs : List Int) (w : World) (e : Ending) (w' : World) : Prop :=
  ∃ g h, e = .returned (.agg #[.int .i64 f, .int .i64 t, .int .i64 d, .slice (some ⟨g, 0, none⟩) us.length us.length, .slice (some ⟨h, 0, none⟩) vs.length vs.length]) ∧ w.heap.size ≤ g ∧ w.heap.size ≤ h ∧ g < h ∧
    IntsAt w' w'.heap.size (some ⟨g, 0, none⟩) us ∧ IntsAt w' w'.heap.size (some ⟨h, 0, none⟩) vs ∧ Below w.heap.size w w'

set_option maxHeartbeats 1000000 in
theorem eqCalendar_same (f t d : Int) (A R A' R' : Option Addr) (ca cr ca' cr' : Nat) (us vs : List Int) (w : World) (h1 : IntsAt w w.heap.size A us) (h2 : IntsAt w w.heap.size R vs) (h3 : IntsAt w w.heap.size A' us) (h4 : IntsAt w w.heap.size R' vs)
    (hn : us.length ≤ 1048576) (hm : vs.length ≤ 1048576) :
    Calls Try.prog 6 #[.agg #[.int .i64 f, .int .i64 t, .int .i64 d, .slice A us.length ca, .slice R vs.length cr], .agg #[.int .i64 f, .int .i64 t, .int .i64 d, .slice A' us.length ca', .slice R' vs.length cr']] w fun e w' => e = .returned (.bool true) ∧ Below w.heap.size w w' := by
  have H1 := Lib.hid h1
  have H2 := Lib.hid h2
  have H3 := Lib.hid h3
  have H4 := Lib.hid h4
  clear h1 h2 h3 h4
  go_enter Try.func6, Try.ntmps6
  go_wp2_with fail
  refine (eqIntS_same _ _ _ _ _ _ (H1.out.call (by go_grown)) (H3.out.call (by go_grown)) hn).mono ?_
  rintro e w1 ⟨rfl, q, rfl⟩
  go_wp2_with fail
  refine (eqIntS_same _ _ _ _ _ _ (H2.out.call (bel_drewN (by go_grown) _)) (H4.out.call (bel_drewN (by go_grown) _)) hm).mono ?_
  rintro e w1 ⟨rfl, q2, rfl⟩
  go_wp2_with fail
  go_ret
  exact ⟨rfl, bel_drewN (by go_grown) _⟩
end Go.Proofs.Ytpipegdjflniaaa
