/- RunTime: the reference's contract. -/
import Derived.Test.YtbneigkgdjcnjaaRtm
namespace Go.Proofs.Ytbneigkgdjcnjaa
open Go.ChangeShapes Go.WideShapes Go.ChangeAt Go.RowKit Go.PlainAid
set_option linter.unusedVariables false

set_option maxRecDepth 100000 in
set_option maxHeartbeats 2000000 in
theorem specRunTime_any (x : NetD) (A L : Option Addr) (ca cl : Nat) (line p q : Int) (w : World) (hA : StrsIn w (Zone.below w.heap.size) A x.stops) (hL : LinesIn w (Zone.below w.heap.size) L x.lines) (hx : Fits x) :
    Calls Try.prog 22 #[.agg #[.slice A x.stops.length ca, .slice L x.lines.length cl], .int .i64 line, .int .i64 p, .int .i64 q] w fun e w' => e = .returned (.tuple #[.int .i64 (numI (rtB x line p q) (rtI x line p q)), .bool (numB (rtB x line p q) (rtI x line p q))]) ∧ Below w.heap.size w w' := by
  have H0 : Hid (NetBox w (w.alloc (.cells #[.slice A x.stops.length ca, .slice L x.lines.length cl] 31)) w.heap.size x A ca L cl) := Lib.hid (NetBox.box hA hL)
  have hn := hx.stops
  have hm := hx.lines
  clear hA hL
  cases g0 : stopB x p
  · have H := numNo (i := rtI x line p q) (show rtB x line p q = false by unfold rtB; rw [g0]; rfl)
    go_enter Try.func22, Try.ntmps22
    go_wp2_with fail
    refine (l2Stop_any x _ _ _ _ p _ H0.out.stops H0.out.lines hx).mono ?_
    rintro e w1 ⟨rfl, hb1⟩
    have H1 := Lib.hid (H0.out.call hb1)
    clear hb1
    (try clear c0 c1)
    obtain ⟨c0, c1⟩ := H1.out.cells
    go_wp2_with (go_at_call 73; refine (l1In_any _ _ _ _).mono ?_; rintro e w6 ⟨rfl, rfl⟩)
    go_ret2
    exact ⟨retT H.out.1.symm H.out.2.symm, H1.out.bel⟩
  have hnet : netB x = true := by unfold stopB at g0; revert g0; cases netB x <;> simp
  cases g1 : stopB x q
  · have H := numNo (i := rtI x line p q) (show rtB x line p q = false from rtB_no (by unfold stopB at g1; rw [hnet] at g1; simp at g1; exact .inr (.inr (.inl g1))))
    go_enter Try.func22, Try.ntmps22
    go_wp2_with fail
    refine (l2Stop_any x _ _ _ _ p _ H0.out.stops H0.out.lines hx).mono ?_
    rintro e w1 ⟨rfl, hb1⟩
    have H1 := Lib.hid (H0.out.call hb1)
    clear hb1
    (try clear c0 c1)
    obtain ⟨c0, c1⟩ := H1.out.cells
    go_wp2_with fail
    refine (l2Stop_any x _ _ _ _ q _ H1.out.stops H1.out.lines hx).mono ?_
    rintro e w2 ⟨rfl, hb2⟩
    have H2 := Lib.hid (H1.out.call hb2)
    clear hb2
    (try clear c0 c1)
    obtain ⟨c0, c1⟩ := H2.out.cells
    go_wp2_with (go_at_call 73; refine (l1In_any _ _ _ _).mono ?_; rintro e w6 ⟨rfl, rfl⟩)
    go_ret2
    exact ⟨retT H.out.1.symm H.out.2.symm, H2.out.bel⟩
  cases g2 : inB line 0 (x.lines.length - 1)
  · have H := numNo (i := rtI x line p q) (rtB_no (x := x) (line := line) (p := p) (q := q) (.inr (.inr (.inr g2))))
    go_enter Try.func22, Try.ntmps22
    go_wp2_with fail
    refine (l2Stop_any x _ _ _ _ p _ H0.out.stops H0.out.lines hx).mono ?_
    rintro e w1 ⟨rfl, hb1⟩
    have H1 := Lib.hid (H0.out.call hb1)
    clear hb1
    (try clear c0 c1)
    obtain ⟨c0, c1⟩ := H1.out.cells
    go_wp2_with fail
    refine (l2Stop_any x _ _ _ _ q _ H1.out.stops H1.out.lines hx).mono ?_
    rintro e w2 ⟨rfl, hb2⟩
    have H2 := Lib.hid (H1.out.call hb2)
    clear hb2
    (try clear c0 c1)
    obtain ⟨c0, c1⟩ := H2.out.cells
    go_wp2_with (go_at_call 73; refine (l1In_any _ _ _ _).mono ?_; rintro e w6 ⟨rfl, rfl⟩)
    go_ret2
    exact ⟨retT H.out.1.symm H.out.2.symm, H2.out.bel⟩
  have HK := Lib.hid (show rtB x line p q = true by
    unfold rtB
    unfold stopB at g1
    rw [hnet] at g1
    simp at g1
    rw [g0, g1, g2]
    rfl)
  obtain ⟨j1, j2⟩ := inB_iff.1 g2
  obtain ⟨k, rfl⟩ : ∃ k : Nat, line = k := ⟨line.toNat, by omega⟩
  have hk : k < x.lines.length := by omega
  have HLn := Lib.hid (netB_line hnet hk)
  have hj : (k : Int) < x.lines.length := by omega
  clear hnet
  go_enter Try.func22, Try.ntmps22
  go_wp2_with fail
  refine (l2Stop_any x _ _ _ _ p _ H0.out.stops H0.out.lines hx).mono ?_
  rintro e w1 ⟨rfl, hb1⟩
  have H1 := Lib.hid (H0.out.call hb1)
  clear hb1
  (try clear c0 c1)
  obtain ⟨c0, c1⟩ := H1.out.cells
  go_wp2_with fail
  refine (l2Stop_any x _ _ _ _ q _ H1.out.stops H1.out.lines hx).mono ?_
  rintro e w2 ⟨rfl, hb2⟩
  have H2 := Lib.hid (H1.out.call hb2)
  clear hb2
  (try clear c0 c1)
  obtain ⟨c0, c1⟩ := H2.out.cells
  go_wp2_with (go_at_call 73; refine (l1In_any _ _ _ _).mono ?_; rintro e w6 ⟨rfl, rfl⟩)
  obtain ⟨b, o, rfl, hbl, S, cs, R, cr, hc0, hc1, hc2, hi1, hi2, hcs, hcr⟩ := LinesIn.lineC H2.out.lines hk
  have HI := Lib.hid hi1
  have HI2 := Lib.hid hi2
  have HCC : Hid (w2.cell? ⟨b, o + k * 3, none⟩ = some (.string (nthL x.lines k).name) ∧ w2.cell? ⟨b, o + k * 3 + 1, none⟩ = some (.slice S (nthL x.lines k).stops.length cs) ∧ w2.cell? ⟨b, o + k * 3 + 2, none⟩ = some (.slice R (nthL x.lines k).runs.length cr)) := Lib.hid ⟨hc0, hc1, hc2⟩
  have hd := HLn.out.1
  unfold LineHd at hd
  have hy : (nthL x.lines k).stops.length ≤ 1048576 := by omega
  have hN : ∀ w', Below w2.heap.size w2 w' → Net2 w' w.heap.size x A ca (some ⟨b, o, none⟩) cl := fun w' h => H2.out.cells.below h H2.out.lt
  have hE : ∀ w', Below w2.heap.size w2 w' → w'.cell? ⟨b, o + k * 3, none⟩ = some (.string (nthL x.lines k).name) ∧ w'.cell? ⟨b, o + k * 3 + 1, none⟩ = some (.slice S (nthL x.lines k).stops.length cs) ∧ w'.cell? ⟨b, o + k * 3 + 2, none⟩ = some (.slice R (nthL x.lines k).runs.length cr) := fun w' h =>
    ⟨(h.cell (p := ⟨b, _, none⟩) hbl).trans HCC.out.1, (h.cell (p := ⟨b, _, none⟩) hbl).trans HCC.out.2.1, (h.cell (p := ⟨b, _, none⟩) hbl).trans HCC.out.2.2⟩
  unfold Net2 at hN
  have HR := Lib.hid (show rtI x k p q = runI (nthL x.lines k) (ixI (nthL x.lines k).stops p) (ixI (nthL x.lines k).stops q) by unfold rtI; rw [Int.toNat_natCast])
  clear hc0 hc1 hc2 c0 c1 hi1 hi2 hd
  go_region_held3 (fun w' => Below w2.heap.size w2 w') (repeat' first | assumption | exact Nat.le_refl _ | exact Below.refl _ _ | (refine bel_drew ?_) | (refine bel_alloc ?_ _) | (refine bel_set ?_ ?_ _))
    (first
      | (go_at_call 74; refine (l2Place_any (nthL x.lines k) _ _ _ _ _ _ (HI.out.call ‹Below w2.heap.size w2 _›) hy).mono ?_; rintro e w5 ⟨rfl, hb5⟩; have hB5 := bel_call ‹Below w2.heap.size w2 _› hb5; clear hb5))
  all_goals
    have H3 := Lib.hid (H2.out.call hB5)
    have HE3 := Lib.hid (hE _ hB5)
    have HI3 := Lib.hid (HI2.out.call hB5)
    clear hN hE hB5
    by_cases h1 : ixI (nthL x.lines k).stops p < 0
    · have H := Lib.hid (num_no (ok := rtB x k p q) (i := rtI x k p q) (.inr (by rw [HR.out, runI_no (.inl h1)]; decide)))
      go_wp2_with fail
      go_ret2
      exact ⟨retT H.out.1.symm H.out.2.symm, H3.out.bel⟩
    · by_cases h2 : ixI (nthL x.lines k).stops q ≤ ixI (nthL x.lines k).stops p
      · have H := Lib.hid (num_no (ok := rtB x k p q) (i := rtI x k p q) (.inr (by rw [HR.out, runI_no (.inr h2)]; decide)))
        go_wp2_with fail
        go_ret2
        exact ⟨retT H.out.1.symm H.out.2.symm, H3.out.bel⟩
      · obtain ⟨i, m, e1, e2, him, e3⟩ := runI_nat (x := nthL x.lines k) h1 h2
        have hm2 : m ≤ (nthL x.lines k).runs.length := by
          have := HLn.out.1
          unfold LineHd at this
          have := ixI_bd (nthL x.lines k).stops q
          omega
        have H := Lib.hid (num_yes (i := rtI x k p q) (by
          rw [HR.out, e3]
          have := sumI_mono (lineOk_runs HLn.out) i m (by omega) hm2
          omega))
        have H4 := Lib.hid e3
        have hr : (nthL x.lines k).runs.length ≤ 1048576 := by
          have := HLn.out.1
          unfold LineHd at this
          omega
        have HRn := Lib.hid (lineOk_runs HLn.out)
        clear e3 h1 h2
        obtain ⟨c0, c1⟩ := H3.out.cells
        obtain ⟨d0, d1, d2⟩ := HE3.out
        go_wp2_with fail
        refine (l2Run_any (nthL x.lines k) _ _ _ _ i m _ HI3.out (by omega) hm2 HRn.out hr).mono ?_
        rintro e w7 ⟨rfl, hb7⟩
        have H5 := Lib.hid (H3.out.call hb7)
        clear hb7
        go_wp2_with fail
        go_ret2
        exact ⟨retT (by rw [HK.out, H.out.1, HR.out, H4.out]) (by rw [HK.out, H.out.2]), H5.out.bel⟩

end Go.Proofs.Ytbneigkgdjcnjaa
