/- Two contracts of one shape: does a calendar run on a day? -/
import Derived.Test.YtbneigkgdjcnjaaRun
namespace Go.Proofs.Ytbneigkgdjcnjaa
open Go.ChangeShapes Go.WideShapes Go.ChangeAt Go.RowKit Go.PlainAid
set_option linter.unusedVariables false

theorem calB_ok {f t d : Int} {us vs : List Int} (h : calB f t d us vs = true) : CalOk f t d us vs := of_decide_eq_true h
theorem l3RunsC (f t d : Int) (A R : Option Addr) (ca cr : Nat) (us vs : List Int) (day : Int) (w : World) (h1 : IntsAt w w.heap.size A us) (h2 : IntsAt w w.heap.size R vs) (hn : us.length ≤ 1048576) (hm : vs.length ≤ 1048576) (hc : CalOk f t d us vs) (d0 : 0 ≤ day) (d1 : day ≤ 3650) :
    Calls Try.prog 98 #[.agg #[.int .i64 f, .int .i64 t, .int .i64 d, .slice A us.length ca, .slice R vs.length cr], .int .i64 day] w fun e w' => e = .returned (.bool (runB f t d us vs day)) ∧ Below w.heap.size w w' :=
  (l3Runs_any f t d A R ca cr us vs day w h1 h2 hn hm d0 d1 (by have := hc.1; unfold HeadB at this; omega) (by have := hc.1; unfold HeadB at this; omega)).mono fun _ _ h => h
theorem runsOnC (f t d : Int) (A R : Option Addr) (ca cr : Nat) (us vs : List Int) (day : Int) (w : World) (h1 : IntsAt w w.heap.size A us) (h2 : IntsAt w w.heap.size R vs) (hn : us.length ≤ 1048576) (hm : vs.length ≤ 1048576) (hc : CalOk f t d us vs) (d0 : 0 ≤ day) (d1 : day ≤ 3650) :
    Calls Try.prog 100 #[.agg #[.int .i64 f, .int .i64 t, .int .i64 d, .slice A us.length ca, .slice R vs.length cr], .int .i64 day] w fun e w' => e = .returned (.bool (runB f t d us vs day)) ∧ Below w.heap.size w w' :=
  (runsOn_any f t d A R ca cr us vs day w h1 h2 hn hm hc).mono fun _ _ h => ⟨h.1, by rw [h.2]; exact (Below.refl _ _).alloc (Nat.le_refl _) _⟩
end Go.Proofs.Ytbneigkgdjcnjaa
