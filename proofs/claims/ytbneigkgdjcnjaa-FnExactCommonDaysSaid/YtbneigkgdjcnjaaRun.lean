/- Contracts of the functions that tell whether a calendar runs on a day. -/
import Derived.Test.YtbneigkgdjcnjaaCalM
import Derived.Test.YtbneigkgdjcnjaaHas
namespace Go.Proofs.Ytbneigkgdjcnjaa
open Go.ChangeShapes Go.WideShapes Go.ChangeAt Go.RowKit Go.PlainAid
set_option linter.unusedVariables false

/-- Does a calendar run on a day? -/
def runB (f t d : Int) (us vs : List Int) (day : Int) : Bool := hasB us day || (inB day f t && wdB d day && !hasB vs day)

theorem l3Day_any (x : Int) (w : World) :
    Calls Try.prog 101 #[.int .i64 x] w fun e w' => e = .returned (.bool (inB x 0 3650)) ∧ w = w' := by
  go_enter Try.func101, Try.ntmps101
  go_wp2_with (go_at_call 73; refine (l1In_any _ _ _ _).mono ?_; rintro e w1 ⟨rfl, rfl⟩)
  go_ret
  exact ⟨rfl, rfl⟩

set_option maxHeartbeats 1000000 in
theorem l3Runs_any (f t d : Int) (A R : Option Addr) (ca cr : Nat) (us vs : List Int) (day : Int) (w : World) (h1 : IntsAt w w.heap.size A us) (h2 : IntsAt w w.heap.size R vs) (hn : us.length ≤ 1048576) (hm : vs.length ≤ 1048576)
    (d0 : 0 ≤ day) (d1 : day ≤ 3650) (d2 : 0 ≤ d) (d3 : d ≤ 127) :
    Calls Try.prog 98 #[.agg #[.int .i64 f, .int .i64 t, .int .i64 d, .slice A us.length ca, .slice R vs.length cr], .int .i64 day] w fun e w' => e = .returned (.bool (runB f t d us vs day)) ∧ Below w.heap.size w w' := by
  have H1 := Lib.hid h1
  have H2 := Lib.hid h2
  clear h1 h2
  cases g1 : hasB us day
  · cases g2 : (inB day f t && wdB d day)
    · have HF := Lib.hid (show runB f t d us vs day = false by unfold runB; rw [g1, g2]; rfl)
      go_enter Try.func98, Try.ntmps98
      go_wp2_with (first
        | (go_at_call 103; refine (l1Has_any _ _ _ _ _ (H1.out.call (by go_grown)) hn).mono ?_; rintro e w1 ⟨rfl, rfl⟩)
        | (go_at_call 104; refine (l3Regular_any _ _ _ _ _ _ _ _ _ _ _ d0 d1 d2 d3).mono ?_; rintro e w1 ⟨rfl, rfl⟩))
      go_ret
      exact ⟨retB HF.out.symm, by go_grown⟩
    · have HF := Lib.hid (show runB f t d us vs day = !hasB vs day by unfold runB; rw [g1, g2]; rfl)
      go_enter Try.func98, Try.ntmps98
      go_wp2_with fail
      refine (l1Has_any _ _ _ _ _ (H1.out.call (by go_grown)) hn).mono ?_
      rintro e w1 ⟨rfl, rfl⟩
      go_wp2_with fail
      refine (l3Regular_any _ _ _ _ _ _ _ _ _ _ _ d0 d1 d2 d3).mono ?_
      rintro e w1 ⟨rfl, rfl⟩
      go_wp2_with fail
      refine (l1Has_any _ _ _ _ _ (H2.out.call (by go_grown)) hm).mono ?_
      rintro e w1 ⟨rfl, rfl⟩
      go_wp2_with fail
      go_ret
      exact ⟨retB HF.out.symm, by go_grown⟩
  · have HF := Lib.hid (show runB f t d us vs day = true by unfold runB; rw [g1]; rfl)
    go_enter Try.func98, Try.ntmps98
    go_wp2_with fail
    refine (l1Has_any _ _ _ _ _ (H1.out.call (by go_grown)) hn).mono ?_
    rintro e w1 ⟨rfl, rfl⟩
    go_wp2_with fail
    go_ret
    exact ⟨retB HF.out.symm, by go_grown⟩

theorem runB_out {f t d : Int} {us vs : List Int} {day : Int} (h : CalOk f t d us vs) (hd : day < f ∨ t < day) : runB f t d us vs day = false := by
  have h1 : hasB us day = false := hasB_no (fun j hj => by
    have := (h.2.1 j hj).1
    unfold eqAt
    simp
    omega)
  have h2 : inB day f t = false := inB_no (by omega)
  unfold runB
  rw [h1, h2]
  rfl

set_option maxHeartbeats 1000000 in
theorem runsOn_any (f t d : Int) (A R : Option Addr) (ca cr : Nat) (us vs : List Int) (day : Int) (w : World) (h1 : IntsAt w w.heap.size A us) (h2 : IntsAt w w.heap.size R vs) (hn : us.length ≤ 1048576) (hm : vs.length ≤ 1048576)
    (hc : CalOk f t d us vs) :
    Calls Try.prog 100 #[.agg #[.int .i64 f, .int .i64 t, .int .i64 d, .slice A us.length ca, .slice R vs.length cr], .int .i64 day] w fun e w' => e = .returned (.bool (runB f t d us vs day)) ∧ w' = w.alloc (.cells #[.int .i64 f, .int .i64 t, .int .i64 d, .slice A us.length ca, .slice R vs.length cr] 55) := by
  have H1 := Lib.hid h1
  have H2 := Lib.hid h2
  have hh := hc.1
  unfold HeadB at hh
  obtain ⟨k1, k2, k3, k4, k5, _, _⟩ := hh
  have HC := Lib.hid hc
  clear h1 h2 hc
  by_cases g1 : day < f
  · have HF := Lib.hid (runB_out (day := day) HC.out (.inl g1))
    go_enter Try.func100, Try.ntmps100
    go_wp2_with fail
    go_ret
    exact ⟨retB HF.out.symm, rfl⟩
  · by_cases g2 : t < day
    · have HF := Lib.hid (runB_out (day := day) HC.out (.inr g2))
      go_enter Try.func100, Try.ntmps100
      go_wp2_with fail
      go_ret
      exact ⟨retB HF.out.symm, rfl⟩
    · have hin : inB day f t = true := inB_yes (by omega) (by omega)
      cases g3 : wdB d day
      · have HF := Lib.hid (show runB f t d us vs day = hasB us day by unfold runB; rw [hin, g3]; simp)
        go_enter Try.func100, Try.ntmps100
        go_wp2_with fail
        refine (byWeekday_any _ _ _ (by omega) (by omega) k4 k5).mono ?_
        rintro e w1 ⟨rfl, rfl⟩
        go_wp2_with fail
        refine (slicesContains_any _ _ _ _ _ (H1.out.call (by go_grown)) hn).mono ?_
        rintro e w1 ⟨rfl, rfl⟩
        go_wp2_with fail
        go_ret
        exact ⟨retB HF.out.symm, rfl⟩
      · cases g4 : hasB vs day
        · have HF := Lib.hid (show runB f t d us vs day = true by unfold runB; rw [hin, g3, g4]; simp)
          go_enter Try.func100, Try.ntmps100
          go_wp2_with fail
          refine (byWeekday_any _ _ _ (by omega) (by omega) k4 k5).mono ?_
          rintro e w1 ⟨rfl, rfl⟩
          go_wp2_with fail
          refine (slicesContains_any _ _ _ _ _ (H2.out.call (by go_grown)) hm).mono ?_
          rintro e w1 ⟨rfl, rfl⟩
          go_wp2_with fail
          go_ret
          exact ⟨retB HF.out.symm, rfl⟩
        · have HF := Lib.hid (show runB f t d us vs day = hasB us day by unfold runB; rw [hin, g3, g4]; simp)
          go_enter Try.func100, Try.ntmps100
          go_wp2_with fail
          refine (byWeekday_any _ _ _ (by omega) (by omega) k4 k5).mono ?_
          rintro e w1 ⟨rfl, rfl⟩
          go_wp2_with fail
          refine (slicesContains_any _ _ _ _ _ (H2.out.call (by go_grown)) hm).mono ?_
          rintro e w1 ⟨rfl, rfl⟩
          go_wp2_with fail
          refine (slicesContains_any _ _ _ _ _ (H1.out.call (by go_grown)) hn).mono ?_
          rintro e w1 ⟨rfl, rfl⟩
          go_wp2_with fail
          go_ret
          exact ⟨retB HF.out.symm, rfl⟩
end Go.Proofs.Ytbneigkgdjcnjaa
