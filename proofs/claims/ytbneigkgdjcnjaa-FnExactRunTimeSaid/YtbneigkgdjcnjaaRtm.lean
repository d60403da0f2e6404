/- RunTime: contracts. -/
import Derived.Test.YtbneigkgdjcnjaaNetC
namespace Go.Proofs.Ytbneigkgdjcnjaa
open Go.ChangeShapes Go.WideShapes Go.ChangeAt Go.RowKit Go.PlainAid
set_option linter.unusedVariables false

/-- The sum of the first k numbers. -/
def sumI (xs : List Int) : Nat → Int
  | 0 => 0
  | k + 1 => sumI xs k + nth xs k
def Runs60 (xs : List Int) : Prop := ∀ k, k < xs.length → 1 ≤ nth xs k ∧ nth xs k ≤ 60
theorem sumI_bd {xs : List Int} (h : Runs60 xs) : ∀ k, k ≤ xs.length → (k : Int) ≤ sumI xs k ∧ sumI xs k ≤ 60 * k := by
  intro k
  induction k with
  | zero => intro _; simp [sumI]
  | succ k ih =>
    intro hk
    have h1 := ih (by omega)
    have h2 := h k (by omega)
    simp only [sumI]
    omega
theorem sumI_mono {xs : List Int} (h : Runs60 xs) (a : Nat) : ∀ b, a ≤ b → b ≤ xs.length → sumI xs a ≤ sumI xs b := by
  intro b
  induction b with
  | zero => intro h1 _; obtain rfl : a = 0 := by omega
            exact Int.le_refl _
  | succ b ih =>
    intro h1 h2
    by_cases e : a = b + 1
    · subst e; exact Int.le_refl _
    · have h3 := ih (by omega) (by omega)
      have h4 := h b (by omega)
      simp only [sumI]
      omega
theorem lineOk_runs {n : Nat} {x : LineD} (h : LineOk n x) : Runs60 x.runs := fun k hk => inB_iff.1 (h.2.2 k hk)
theorem ixI_bd (xs : List Int) (p : Int) : -1 ≤ ixI xs p ∧ ixI xs p < xs.length := by
  unfold ixI
  rcases ixN_cases xs.length (eqAt xs p) with ⟨k, hk, _, _, e⟩ | ⟨_, e⟩ <;> rw [e] <;> omega
/-- The minutes between two places of a line. -/
def runI (x : LineD) (a b : Int) : Int := if a < 0 ∨ b ≤ a then -1 else sumI x.runs b.toNat - sumI x.runs a.toNat
theorem runI_no {x : LineD} {a b : Int} (h : a < 0 ∨ b ≤ a) : runI x a b = -1 := if_pos h
theorem runI_yes {x : LineD} {a b : Nat} (h : a < b) : runI x a b = sumI x.runs b - sumI x.runs a := by
  unfold runI
  rw [if_neg (by omega)]
  simp
theorem runI_nat {x : LineD} {a b : Int} (h : ¬ a < 0) (h' : ¬ b ≤ a) : ∃ i k : Nat, a = i ∧ b = k ∧ i < k ∧ runI x a b = sumI x.runs k - sumI x.runs i :=
  ⟨a.toNat, b.toNat, by omega, by omega, by omega, by unfold runI; rw [if_neg (by omega)]⟩

set_option maxHeartbeats 1000000 in
theorem l2Run_any (x : LineD) (A R : Option Addr) (ca cr a b : Nat) (w : World) (hR : IntsIn w (Zone.below w.heap.size) R x.runs) (hab : a ≤ b) (hb : b ≤ x.runs.length) (ok : Runs60 x.runs) (hr : x.runs.length ≤ 1048576) :
    Calls Try.prog 75 #[.agg #[.string x.name, .slice A x.stops.length ca, .slice R x.runs.length cr], .int .i64 a, .int .i64 b] w fun e w' => e = .returned (.int .i64 (sumI x.runs b - sumI x.runs a)) ∧ Below w.heap.size w w' := by
  have HR := Lib.hid (hR.call (w' := w.alloc (.cells #[.string x.name, .slice A x.stops.length ca, .slice R x.runs.length cr] 94)) (by go_grown))
  have HO := Lib.hid ok
  clear hR ok
  go_enter Try.func75, Try.ntmps75
  go_wp2
  go_loopw [7, 8] (fun s i wr => ∃ k : Nat, a ≤ k ∧ k ≤ b ∧ i = .int .i64 k ∧ s = .int .i64 (sumI x.runs k - sumI x.runs a) ∧ wr = w.alloc (.cells #[.string x.name, .slice A x.stops.length ca, .slice R x.runs.length cr] 94)) (fun _ i _ => b - (intOf i).toNat)
  case atStart => exact ⟨a, Nat.le_refl _, hab, rfl, by simp, rfl⟩
  case round =>
    obtain ⟨k, hk0, hk, rfl, rfl, rfl⟩ := hrel
    have h1 := sumI_bd HO.out k (by omega)
    have h2 := sumI_bd HO.out a (by omega)
    have h3 := sumI_mono HO.out a k hk0 (by omega)
    by_cases hlt : k < b
    · obtain ⟨bb, o, rfl, hbl, hc⟩ := HR.out.at.get (k := k) (by omega)
      have hi1 : (k : Int) < (x.runs.length : Int) := by omega
      have h4 := HO.out k (by omega)
      have HS := Lib.hid (show sumI x.runs (k + 1) = sumI x.runs k + nth x.runs k from rfl)
      go_wp2
      go_roundw
      case rel => exact ⟨k + 1, by omega, by omega, by go_num, by rw [HS.out]; congr 1; omega, trivial⟩
      case measure => simp [intOf]; omega
    · obtain rfl : k = b := by omega
      go_wp2
      go_ret
      exact ⟨rfl, by go_grown⟩

set_option maxRecDepth 100000 in
set_option maxHeartbeats 1000000 in
theorem runTime_any (n : Nat) (x : LineD) (A R : Option Addr) (ca cr : Nat) (p q : Int) (w : World) (hA : IntsIn w (Zone.below w.heap.size) A x.stops) (hR : IntsIn w (Zone.below w.heap.size) R x.runs) (ok : LineOk n x) (hcr : CapOk x.runs.length cr) :
    Calls Try.prog 78 #[.agg #[.string x.name, .slice A x.stops.length ca, .slice R x.runs.length cr], .int .i64 p, .int .i64 q] w fun e w' => e = .returned (.int .i64 (runI x (ixI x.stops p) (ixI x.stops q))) ∧ Below w.heap.size w w' := by
  have HA := Lib.hid (hA.call (w' := w.alloc (.cells #[.string x.name, .slice A x.stops.length ca, .slice R x.runs.length cr] 94)) (by go_grown))
  have HR := Lib.hid (hR.call (w' := w.alloc (.cells #[.string x.name, .slice A x.stops.length ca, .slice R x.runs.length cr] 94)) (by go_grown))
  have HO := Lib.hid (lineOk_runs ok)
  have hd := ok.1
  unfold LineHd at hd
  have hn : x.stops.length ≤ 1048576 := by omega
  obtain ⟨b1, b2⟩ := ixI_bd x.stops p
  obtain ⟨b3, b4⟩ := ixI_bd x.stops q
  unfold CapOk at hcr
  clear hA hR ok
  by_cases h1 : ixI x.stops p < 0
  · have H := Lib.hid (runI_no (x := x) (a := ixI x.stops p) (b := ixI x.stops q) (.inl h1))
    go_enter Try.func78, Try.ntmps78
    go_wp2
    go_quiet ((go_at_call 125; exact quietS (slicesIndex_any _ _ _ _ _ (HA.out.at.drewN _) hn)))
    go_wp2
    go_ret
    exact ⟨retI H.out.symm, bel_drewN (by go_grown) _⟩
  · by_cases h2 : ixI x.stops q ≤ ixI x.stops p
    · have H := Lib.hid (runI_no (x := x) (a := ixI x.stops p) (b := ixI x.stops q) (.inr h2))
      go_enter Try.func78, Try.ntmps78
      go_wp2
      go_quiet ((go_at_call 125; exact quietS (slicesIndex_any _ _ _ _ _ (HA.out.at.drewN _) hn)))
      go_wp2
      go_ret
      exact ⟨retI H.out.symm, bel_drewN (by go_grown) _⟩
    · obtain ⟨i, k, e1, e2, hik, e3⟩ := runI_nat (x := x) h1 h2
      have H := Lib.hid e3
      obtain ⟨bb, o, rfl, hbl, hc⟩ := HR.out.at (by omega)
      have HC := Lib.hid hc
      clear hc e3 b1 b3 h1 h2
      have hk2 : k ≤ x.runs.length := by omega
      clear b2 b4
      go_enter Try.func78, Try.ntmps78
      go_wp2
      go_quiet ((go_at_call 125; exact quietS (slicesIndex_any _ _ _ _ _ (HA.out.at.drewN _) hn)))
      go_wp2
      go_loopw [9, 33] (fun s c wr => ∃ j : Nat, j ≤ k - i ∧ c = .int .i64 j ∧ s = .int .i64 (sumI x.runs (i + j) - sumI x.runs i) ∧ wr = (w.alloc (.cells #[.string x.name, .slice A x.stops.length ca, .slice (some ⟨bb, o, none⟩) x.runs.length cr] 94)).drewN nq) (fun _ c _ => (k - i) - (intOf c).toNat)
      case atStart => exact ⟨0, Nat.zero_le _, rfl, by simp, rfl⟩
      case round =>
        obtain ⟨j, hj, rfl, rfl, rfl⟩ := hrel
        have h1 := sumI_bd HO.out (i + j) (by omega)
        have h2 := sumI_bd HO.out i (by omega)
        have h3 := sumI_mono HO.out i (i + j) (by omega) (by omega)
        by_cases hlt : j < k - i
        · have hc : ((w.alloc (.cells #[.string x.name, .slice A x.stops.length ca, .slice (some ⟨bb, o, none⟩) x.runs.length cr] 94)).drewN nq).cell? ⟨bb, o + i + j, none⟩ = some (.int .i64 (nth x.runs (i + j))) := by
            have := HC.out (i + j) (by omega)
            rw [← Nat.add_assoc] at this
            exact this
          have h4 := HO.out (i + j) (by omega)
          have HS := Lib.hid (show sumI x.runs (i + (j + 1)) = sumI x.runs (i + j) + nth x.runs (i + j) from rfl)
          go_wp2
          go_roundw
          case rel => exact ⟨j + 1, by omega, by go_num, by rw [HS.out]; congr 1; omega, trivial⟩
          case measure => simp [intOf]; omega
        · obtain rfl : j = k - i := by omega
          go_wp2
          go_ret
          exact ⟨retI (by rw [H.out]; congr 2; omega), bel_drewN (by go_grown) _⟩

/-- When RunTime looks at a line. -/
def rtB (x : NetD) (line p q : Int) : Bool := (stopB x p && inB q 0 (x.stops.length - 1)) && inB line 0 (x.lines.length - 1)
def rtI (x : NetD) (line p q : Int) : Int := runI (nthL x.lines line.toNat) (ixI (nthL x.lines line.toNat).stops p) (ixI (nthL x.lines line.toNat).stops q)
theorem rtB_no {x : NetD} {line p q : Int} (h : netB x = false ∨ inB p 0 (x.stops.length - 1) = false ∨ inB q 0 (x.stops.length - 1) = false ∨ inB line 0 (x.lines.length - 1) = false) : rtB x line p q = false := by
  unfold rtB stopB
  rcases h with h | h | h | h <;> simp [h]
theorem rtB_yes {x : NetD} {line p q : Int} (h1 : netB x = true) (h2 : inB p 0 (x.stops.length - 1) = true) (h3 : inB q 0 (x.stops.length - 1) = true) (h4 : inB line 0 (x.lines.length - 1) = true) : rtB x line p q = true := by
  unfold rtB stopB
  simp [h1, h2, h3, h4]
theorem numNo {ok : Bool} {i : Int} (h : ok = false) : Hid (numI ok i = 0 ∧ numB ok i = false) := Lib.hid (num_no (.inl h))
theorem netB_line {x : NetD} (h : netB x = true) {k : Nat} (hk : k < x.lines.length) : LineOk x.stops.length (nthL x.lines k) := of_decide_eq_true ((netB_ok h).each k hk)

set_option maxRecDepth 100000 in
set_option maxHeartbeats 2000000 in

theorem implRunTime_any (x : NetD) (A L : Option Addr) (ca cl : Nat) (line p q : Int) (w : World) (hA : StrsIn w (Zone.below w.heap.size) A x.stops) (hL : LinesIn w (Zone.below w.heap.size) L x.lines) (hx : Fits x) :
    Calls Try.prog 23 #[.agg #[.slice A x.stops.length ca, .slice L x.lines.length cl], .int .i64 line, .int .i64 p, .int .i64 q] w fun e w' => e = .returned (.tuple #[.int .i64 (numI (rtB x line p q) (rtI x line p q)), .bool (numB (rtB x line p q) (rtI x line p q))]) ∧ Below w.heap.size w w' := by
  have H0 : Hid (NetBox w (w.alloc (.cells #[.slice A x.stops.length ca, .slice L x.lines.length cl] 31)) w.heap.size x A ca L cl) := Lib.hid (NetBox.box hA hL)
  have hn := hx.stops
  have hm := hx.lines
  clear hA hL
  cases g0 : netB x
  · have H := numNo (i := rtI x line p q) (rtB_no (x := x) (line := line) (p := p) (q := q) (.inl g0))
    go_enter Try.func23, Try.ntmps23
    go_wp2_with fail
    refine (isValidNetwork_any x _ _ _ _  _ H0.out.stops H0.out.lines hx).mono ?_
    rintro e w1 ⟨rfl, hb1⟩
    have H1 := Lib.hid (H0.out.call hb1)
    clear hb1
    (try clear c0 c1)
    obtain ⟨c0, c1⟩ := H1.out.cells
    go_wp2_with fail
    go_ret2
    exact ⟨retT H.out.1.symm H.out.2.symm, H1.out.bel⟩
  cases g1 : inB line 0 (x.lines.length - 1)
  · have H := numNo (i := rtI x line p q) (rtB_no (x := x) (line := line) (p := p) (q := q) (.inr (.inr (.inr g1))))
    go_enter Try.func23, Try.ntmps23
    go_wp2_with fail
    refine (isValidNetwork_any x _ _ _ _  _ H0.out.stops H0.out.lines hx).mono ?_
    rintro e w1 ⟨rfl, hb1⟩
    have H1 := Lib.hid (H0.out.call hb1)
    clear hb1
    (try clear c0 c1)
    obtain ⟨c0, c1⟩ := H1.out.cells
    go_wp2_with fail
    refine (isLine_any x _ _ _ _ line _  hm).mono ?_
    rintro e w2 ⟨rfl, hb2⟩
    have H2 := Lib.hid (H1.out.call hb2)
    clear hb2
    (try clear c0 c1)
    obtain ⟨c0, c1⟩ := H2.out.cells
    go_wp2_with fail
    go_ret2
    exact ⟨retT H.out.1.symm H.out.2.symm, H2.out.bel⟩
  cases g2 : inB p 0 (x.stops.length - 1)
  · have H := numNo (i := rtI x line p q) (rtB_no (x := x) (line := line) (p := p) (q := q) (.inr (.inl g2)))
    go_enter Try.func23, Try.ntmps23
    go_wp2_with fail
    refine (isValidNetwork_any x _ _ _ _  _ H0.out.stops H0.out.lines hx).mono ?_
    rintro e w1 ⟨rfl, hb1⟩
    have H1 := Lib.hid (H0.out.call hb1)
    clear hb1
    (try clear c0 c1)
    obtain ⟨c0, c1⟩ := H1.out.cells
    go_wp2_with fail
    refine (isLine_any x _ _ _ _ line _  hm).mono ?_
    rintro e w2 ⟨rfl, hb2⟩
    have H2 := Lib.hid (H1.out.call hb2)
    clear hb2
    (try clear c0 c1)
    obtain ⟨c0, c1⟩ := H2.out.cells
    go_wp2_with fail
    refine (isStop_any x _ _ _ _ p _  hn).mono ?_
    rintro e w3 ⟨rfl, hb3⟩
    have H3 := Lib.hid (H2.out.call hb3)
    clear hb3
    (try clear c0 c1)
    obtain ⟨c0, c1⟩ := H3.out.cells
    go_wp2_with fail
    go_ret2
    exact ⟨retT H.out.1.symm H.out.2.symm, H3.out.bel⟩
  cases g3 : inB q 0 (x.stops.length - 1)
  · have H := numNo (i := rtI x line p q) (rtB_no (x := x) (line := line) (p := p) (q := q) (.inr (.inr (.inl g3))))
    go_enter Try.func23, Try.ntmps23
    go_wp2_with fail
    refine (isValidNetwork_any x _ _ _ _  _ H0.out.stops H0.out.lines hx).mono ?_
    rintro e w1 ⟨rfl, hb1⟩
    have H1 := Lib.hid (H0.out.call hb1)
    clear hb1
    (try clear c0 c1)
    obtain ⟨c0, c1⟩ := H1.out.cells
    go_wp2_with fail
    refine (isLine_any x _ _ _ _ line _  hm).mono ?_
    rintro e w2 ⟨rfl, hb2⟩
    have H2 := Lib.hid (H1.out.call hb2)
    clear hb2
    (try clear c0 c1)
    obtain ⟨c0, c1⟩ := H2.out.cells
    go_wp2_with fail
    refine (isStop_any x _ _ _ _ p _  hn).mono ?_
    rintro e w3 ⟨rfl, hb3⟩
    have H3 := Lib.hid (H2.out.call hb3)
    clear hb3
    (try clear c0 c1)
    obtain ⟨c0, c1⟩ := H3.out.cells
    go_wp2_with fail
    refine (isStop_any x _ _ _ _ q _  hn).mono ?_
    rintro e w4 ⟨rfl, hb4⟩
    have H4 := Lib.hid (H3.out.call hb4)
    clear hb4
    (try clear c0 c1)
    obtain ⟨c0, c1⟩ := H4.out.cells
    go_wp2_with fail
    go_ret2
    exact ⟨retT H.out.1.symm H.out.2.symm, H4.out.bel⟩
  have HK := Lib.hid (rtB_yes g0 g2 g3 g1)
  obtain ⟨j1, j2⟩ := inB_iff.1 g1
  obtain ⟨k, rfl⟩ : ∃ k : Nat, line = k := ⟨line.toNat, by omega⟩
  have hk : k < x.lines.length := by omega
  have HLn := Lib.hid (netB_line g0 hk)
  have hj : (k : Int) < x.lines.length := by omega
  go_enter Try.func23, Try.ntmps23
  go_wp2_with fail
  refine (isValidNetwork_any x _ _ _ _  _ H0.out.stops H0.out.lines hx).mono ?_
  rintro e w1 ⟨rfl, hb1⟩
  have H1 := Lib.hid (H0.out.call hb1)
  clear hb1
  (try clear c0 c1)
  obtain ⟨c0, c1⟩ := H1.out.cells
  go_wp2_with fail
  refine (isLine_any x _ _ _ _ _ _  hm).mono ?_
  rintro e w2 ⟨rfl, hb2⟩
  have H2 := Lib.hid (H1.out.call hb2)
  clear hb2
  (try clear c0 c1)
  obtain ⟨c0, c1⟩ := H2.out.cells
  go_wp2_with fail
  refine (isStop_any x _ _ _ _ p _  hn).mono ?_
  rintro e w3 ⟨rfl, hb3⟩
  have H3 := Lib.hid (H2.out.call hb3)
  clear hb3
  (try clear c0 c1)
  obtain ⟨c0, c1⟩ := H3.out.cells
  go_wp2_with fail
  refine (isStop_any x _ _ _ _ q _  hn).mono ?_
  rintro e w4 ⟨rfl, hb4⟩
  have H4 := Lib.hid (H3.out.call hb4)
  clear hb4
  (try clear c0 c1)
  obtain ⟨c0, c1⟩ := H4.out.cells
  obtain ⟨b, o, rfl, hbl, S, cs, R, cr, hc0, hc1, hc2, hi1, hi2, hcs, hcr⟩ := LinesIn.lineC H4.out.lines hk
  go_wp2_with fail
  refine (runTime_any x.stops.length (nthL x.lines k) _ _ _ _ p q _ hi1 hi2 HLn.out hcr).mono ?_
  rintro e w5 ⟨rfl, hb5⟩
  have H5 := Lib.hid (H4.out.call hb5)
  have HR := Lib.hid (show rtI x k p q = runI (nthL x.lines k) (ixI (nthL x.lines k).stops p) (ixI (nthL x.lines k).stops q) by unfold rtI; rw [Int.toNat_natCast])
  clear hb5 hc0 hc1 hc2 c0 c1
  go_wp2_with (go_at_call 66; refine (found_any _ _).mono ?_; rintro e w6 ⟨rfl, rfl⟩)
  go_ret2
  exact ⟨retT (by rw [HK.out, HR.out]) (by rw [HK.out, HR.out]), H5.out.bel⟩

end Go.Proofs.Ytbneigkgdjcnjaa
