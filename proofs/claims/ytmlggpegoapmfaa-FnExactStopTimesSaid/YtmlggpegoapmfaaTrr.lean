/- TripsRunning: contracts. -/
import Derived.Test.YtmlggpegoapmfaaTtg
import Derived.Test.YtmlggpegoapmfaaTti
namespace Go.Proofs.Ytmlggpegoapmfaa
open Go.ChangeShapes Go.WideShapes Go.ChangeAt Go.RowKit Go.PlainAid
set_option linter.unusedVariables false
set_option linter.unusedSimpArgs false

/-- The numbers f k of those k below n of which p says yes. -/
def pickI (f : Nat → Int) (p : Nat → Bool) : Nat → List Int
  | 0 => []
  | k + 1 => if p k = true then pickI f p k ++ [f k] else pickI f p k
theorem pick_yes {f : Nat → Int} {p : Nat → Bool} {k : Nat} (h : p k = true) : pickI f p (k + 1) = pickI f p k ++ [f k] := by simp only [pickI]; rw [if_pos h]
theorem pick_no {f : Nat → Int} {p : Nat → Bool} {k : Nat} (h : p k = false) : pickI f p (k + 1) = pickI f p k := by simp only [pickI]; rw [if_neg (by rw [h]; simp)]
theorem pick_len (f : Nat → Int) (p : Nat → Bool) (n : Nat) : (pickI f p n).length ≤ n := by
  induction n with
  | zero => simp [pickI]
  | succ n ih =>
    simp only [pickI]
    split
    · rw [List.length_append]; simp; omega
    · omega
def idF (x : TTD) (k : Nat) : Int := (nth3 x.trips k).a
def runsF (x : TTD) (s : Int) (k : Nat) : Bool := decide ((nth3 x.trips k).c ≤ s) && decide (s < endI x (nth3 x.trips k))
/-- What TripsRunning returns. -/
def trB (x : TTD) (s : Int) : Bool := ttB x && tmB s
def trI (x : TTD) (s : Int) : List Int := if trB x s = true then pickI (idF x) (runsF x s) x.trips.length else []
theorem trI_no {x : TTD} {s : Int} (h : trB x s = false) : trI x s = [] := by unfold trI; rw [h]; rfl
theorem trI_yes {x : TTD} {s : Int} (h : trB x s = true) : trI x s = pickI (idF x) (runsF x s) x.trips.length := by unfold trI; rw [h]; rfl
theorem trI_len (x : TTD) (s : Int) : (trI x s).length ≤ x.trips.length := by
  unfold trI
  split
  · exact pick_len _ _ _
  · simp
theorem ti_of {x : TTD} (h : ttB x = true) {k : Nat} (hk : k < x.trips.length) : Ti x k := by
  obtain ⟨h1, h2⟩ := ttB_ok h
  obtain ⟨_, _, b0, b1, c, _⟩ := (h2.2 k hk).1
  have := tmB_iff.1 c
  exact ⟨hk, b0, b1, this.1, this.2, h1⟩

set_option maxRecDepth 100000 in
set_option maxHeartbeats 4000000 in
theorem implTripsRunning_any (x : TTD) (A L T : Option Addr) (ca cl ct : Nat) (s : Int) (w : World) (hA : StrsIn w (Zone.below w.heap.size) A x.net.stops) (hL : LinesIn w (Zone.below w.heap.size) L x.net.lines) (hT : I3sIn w (Zone.below w.heap.size) T x.trips) (hx : FitsT x) :
    Calls Try.prog 23 #[.agg #[.slice A x.net.stops.length ca, .slice L x.net.lines.length cl, .slice T x.trips.length ct], .int .i64 s] w (RetInts (trI x s) (trB x s) w) := by
  have H0' : Hid (TtBox w (w.alloc (.cells #[.slice A x.net.stops.length ca, .slice L x.net.lines.length cl, .slice T x.trips.length ct] 36)) w.heap.size x A ca L cl T ct) := Lib.hid (TtBox.box hA hL hT)
  have H0 : Hid (TtBox w (w.alloc (.cells #[.slice A x.net.stops.length ca, .slice L x.net.lines.length cl, .slice T x.trips.length ct] 36)) w.heap.size x A ca L cl T ct) := Lib.hid (H0'.out.call (by go_grown))
  have hn := hx.trips
  have hm := hx.net.lines
  have O0 : Hid (OwnI (w.alloc (.cells #[.slice A x.net.stops.length ca, .slice L x.net.lines.length cl, .slice T x.trips.length ct] 36)) (w.heap.size + 1) (.slice none 0 0) []) := Lib.hid OwnE.nil
  have hz0 : w.heap.size + 1 ≤ (w.alloc (.cells #[.slice A x.net.stops.length ca, .slice L x.net.lines.length cl, .slice T x.trips.length ct] 36)).heap.size := by simp
  clear H0' hA hL hT
  cases g1 : ttB x
  · have hcd : trB x s = false := by unfold trB; rw [g1]; rfl
    have HN := Lib.hid (And.intro (trI_no hcd) hcd)
    clear hcd
    go_enter Try.func23, Try.ntmps23
    go_wp2_with fail
    generalize (w.alloc (.cells #[.slice A x.net.stops.length ca, .slice L x.net.lines.length cl, .slice T x.trips.length ct] 36)) = w0 at *
    refine (isValidTimetable_any x _ _ _ _ _ _ _ H0.out.stops H0.out.lines H0.out.trips hx).mono ?_
    rintro e w1 ⟨rfl, hb1⟩
    have H1 := Lib.hid (H0.out.call hb1)
    have O1 := Lib.hid (O0.out.call hb1)
    have hz1 : w.heap.size + 1 ≤ w1.heap.size := Nat.le_trans hz0 hb1.size
    clear hb1
    obtain ⟨c0, c1, c2⟩ := H1.out.cells
    go_wp2_with (first | (go_at_call 70; refine (isValidTime_any _ _).mono ?_; rintro e wt ⟨rfl, rfl⟩))
    go_ret2
    rw [HN.out.1, HN.out.2]
    exact O1.out.ret (by omega) H1.out.bel
  cases g2 : tmB s
  · have hcd : trB x s = false := by unfold trB; rw [g1, g2]; rfl
    have HN := Lib.hid (And.intro (trI_no hcd) hcd)
    clear hcd
    go_enter Try.func23, Try.ntmps23
    go_wp2_with fail
    generalize (w.alloc (.cells #[.slice A x.net.stops.length ca, .slice L x.net.lines.length cl, .slice T x.trips.length ct] 36)) = w0 at *
    refine (isValidTimetable_any x _ _ _ _ _ _ _ H0.out.stops H0.out.lines H0.out.trips hx).mono ?_
    rintro e w1 ⟨rfl, hb1⟩
    have H1 := Lib.hid (H0.out.call hb1)
    have O1 := Lib.hid (O0.out.call hb1)
    have hz1 : w.heap.size + 1 ≤ w1.heap.size := Nat.le_trans hz0 hb1.size
    clear hb1
    obtain ⟨c0, c1, c2⟩ := H1.out.cells
    go_wp2_with (first | (go_at_call 70; refine (isValidTime_any _ _).mono ?_; rintro e wt ⟨rfl, rfl⟩))
    go_ret2
    rw [HN.out.1, HN.out.2]
    exact O1.out.ret (by omega) H1.out.bel
  have hcd : trB x s = true := by unfold trB; rw [g1, g2]; rfl
  have HY := Lib.hid (And.intro (trI_yes hcd) hcd)
  have HTi : Hid (∀ k, k < x.trips.length → Ti x k) := Lib.hid (fun k hk => ti_of g1 hk)
  clear hcd
  go_enter Try.func23, Try.ntmps23
  go_wp2_with fail
  generalize (w.alloc (.cells #[.slice A x.net.stops.length ca, .slice L x.net.lines.length cl, .slice T x.trips.length ct] 36)) = w0 at *
  refine (isValidTimetable_any x _ _ _ _ _ _ _ H0.out.stops H0.out.lines H0.out.trips hx).mono ?_
  rintro e w1 ⟨rfl, hb1⟩
  have H1 := Lib.hid (H0.out.call hb1)
  have O1 := Lib.hid (O0.out.call hb1)
  have hz1 : w.heap.size + 1 ≤ w1.heap.size := Nat.le_trans hz0 hb1.size
  clear hb1
  obtain ⟨c0, c1, c2⟩ := H1.out.cells
  go_wp2_with (first | (go_at_call 70; refine (isValidTime_any _ _).mono ?_; rintro e wt ⟨rfl, rfl⟩))
  clear c0 c1 c2
  go_loopw [6, 8, 20] (fun v _ i wr => ∃ k : Nat, k ≤ x.trips.length ∧ i = .int .i64 k ∧ OwnI wr (w.heap.size + 1) v (pickI (idF x) (runsF x s) k) ∧ Below (w.heap.size + 1) w1 wr) (fun _ _ i _ => x.trips.length - (intOf i).toNat)
  case atStart => exact ⟨0, Nat.zero_le _, rfl, O1.out, Below.refl _ _⟩
  case round =>
    obtain ⟨k, hk, rfl, ho, hb⟩ := hrel
    have O3 := Lib.hid ho
    have H3 := Lib.hid (H1.out.callB hb (Nat.lt_succ_self _))
    have HB := Lib.hid hb
    have hz3 : w.heap.size + 1 ≤ wr.heap.size := Nat.le_trans hz1 hb.size
    have hgr : w.heap.size < wr.heap.size := by omega
    have hpl := pick_len (idF x) (runsF x s) k
    clear ho hb
    obtain ⟨c0, c1, c2⟩ := H3.out.cells
    by_cases hlt : k < x.trips.length
    · obtain ⟨b, o, rfl, hbl, d0, d1, d2⟩ := I3sIn.at H3.out.trips hlt
      have hik : (k : Int) < (x.trips.length : Int) := by omega
      have hti := HTi.out k hlt
      obtain ⟨y, hy⟩ : ∃ y, y = nth3 x.trips k := ⟨_, rfl⟩
      have u1 := hti.b0
      have u2 := hti.b1
      have u3 := hti.c0
      have u4 := hti.c1
      have hnet := hti.net
      rw [← hy] at d0 d1 d2 u1 u2 u3 u4
      have HID : Hid (idF x k = y.a) := Lib.hid (by unfold idF; rw [hy])
      have HRN : Hid (runsF x s k = (decide (y.c ≤ s) && decide (s < endI x y))) := Lib.hid (by unfold runsF; rw [hy])
      have HY3 := Lib.hid hy
      have HTk := Lib.hid hti
      clear hy hti
      have HBw : Hid (Below (w.heap.size + 1) w1 (wr.alloc (.cells #[.int .i64 y.a, .int .i64 y.b, .int .i64 y.c] 56))) := Lib.hid (HB.out.alloc hz3 _)
      have H3w : Hid (TtBox w (wr.alloc (.cells #[.int .i64 y.a, .int .i64 y.b, .int .i64 y.c] 56)) w.heap.size x A ca L cl (some ⟨b, o, none⟩) ct) := Lib.hid (H3.out.call (by go_grown))
      have O3w := Lib.hid (O3.out.alloc (.cells #[.int .i64 y.a, .int .i64 y.b, .int .i64 y.c] 56))
      have HW1 : Hid (Tr3 (wr.alloc (.cells #[.int .i64 y.a, .int .i64 y.b, .int .i64 y.c] 56)) wr.heap.size y) := Lib.hid ⟨by go_simp, by go_simp, by go_simp⟩
      have hzw : wr.heap.size < (wr.alloc (.cells #[.int .i64 y.a, .int .i64 y.b, .int .i64 y.c] 56)).heap.size := by simp
      have hz3w : w.heap.size + 1 ≤ (wr.alloc (.cells #[.int .i64 y.a, .int .i64 y.b, .int .i64 y.c] 56)).heap.size := by simp; omega
      by_cases t1 : y.c ≤ s
      · by_cases t2 : s < endI x y
        · have HF : Hid (pickI (idF x) (runsF x s) (k + 1) = pickI (idF x) (runsF x s) k ++ [y.a]) := Lib.hid (by rw [pick_yes (by rw [HRN.out]; simp; exact ⟨t1, t2⟩), HID.out])
          go_wp2_with fail
          generalize (wr.alloc (.cells #[.int .i64 y.a, .int .i64 y.b, .int .i64 y.c] 56)) = wb at *
          refine (endOf_any x _ _ _ _ _ _ y _ H3w.out.lines hnet (by omega) (by omega) (by omega) (by omega) hm).mono ?_
          rintro e w4 ⟨rfl, hb4⟩
          have H4 := Lib.hid (H3w.out.call hb4)
          have O4 := Lib.hid (O3w.out.call hb4)
          have HB4 := Lib.hid (HBw.out.trans (hb4.mono (by omega)))
          have hz4 : w.heap.size + 1 ≤ w4.heap.size := Nat.le_trans hz3w hb4.size
          obtain ⟨e0, e1, e2⟩ := HW1.out.below hb4 hzw
          clear hb4 c0 c1 c2 d0 d1 d2
          go_wp2_with (at_builtin; refine wp_appI rfl _ _ rfl (w.heap.size + 1) _ (pickI (idF x) (runsF x s) k) y.a _ O4.out rfl _ rfl (by simp) (by omega) (by omega) ?_; intro v' w' ho' hb'; have O6 := Lib.hid ho'; have HB6 := Lib.hid (HB4.out.trans hb'); clear ho' hb')
          go_roundw
          case rel => exact ⟨k + 1, by omega, by go_num, by rw [HF.out]; exact O6.out, HB6.out⟩
          case measure => simp [intOf]; omega
        · have HF : Hid (pickI (idF x) (runsF x s) (k + 1) = pickI (idF x) (runsF x s) k) := Lib.hid (pick_no (by rw [HRN.out]; simp; intro _; omega))
          go_wp2_with fail
          generalize (wr.alloc (.cells #[.int .i64 y.a, .int .i64 y.b, .int .i64 y.c] 56)) = wb at *
          refine (endOf_any x _ _ _ _ _ _ y _ H3w.out.lines hnet (by omega) (by omega) (by omega) (by omega) hm).mono ?_
          rintro e w4 ⟨rfl, hb4⟩
          have H4 := Lib.hid (H3w.out.call hb4)
          have O4 := Lib.hid (O3w.out.call hb4)
          have HB4 := Lib.hid (HBw.out.trans (hb4.mono (by omega)))
          have hz4 : w.heap.size + 1 ≤ w4.heap.size := Nat.le_trans hz3w hb4.size
          obtain ⟨e0, e1, e2⟩ := HW1.out.below hb4 hzw
          clear hb4 c0 c1 c2 d0 d1 d2
          go_wp2_with fail
          go_roundw
          case rel => exact ⟨k + 1, by omega, by go_num, by rw [HF.out]; exact O4.out, HB4.out⟩
          case measure => simp [intOf]; omega
      · have HF : Hid (pickI (idF x) (runsF x s) (k + 1) = pickI (idF x) (runsF x s) k) := Lib.hid (pick_no (by rw [HRN.out]; simp; intro h; omega))
        go_wp2_with fail
        go_roundw
        case rel => exact ⟨k + 1, by omega, by go_num, by rw [HF.out]; exact O3w.out, HBw.out⟩
        case measure => simp [intOf]; omega
    · obtain rfl : k = x.trips.length := by omega
      go_wp2_with fail
      go_ret2
      rw [HY.out.1, HY.out.2]
      exact O3.out.ret (by omega) H3.out.bel

set_option maxRecDepth 100000 in
set_option maxHeartbeats 4000000 in
theorem specTripsRunning_any (x : TTD) (A L T : Option Addr) (ca cl ct : Nat) (s : Int) (w : World) (hA : StrsIn w (Zone.below w.heap.size) A x.net.stops) (hL : LinesIn w (Zone.below w.heap.size) L x.net.lines) (hT : I3sIn w (Zone.below w.heap.size) T x.trips) (hx : FitsT x) :
    Calls Try.prog 22 #[.agg #[.slice A x.net.stops.length ca, .slice L x.net.lines.length cl, .slice T x.trips.length ct], .int .i64 s] w (RetInts (trI x s) (trB x s) w) := by
  have H0' : Hid (TtBox w (w.alloc (.cells #[.slice A x.net.stops.length ca, .slice L x.net.lines.length cl, .slice T x.trips.length ct] 36)) w.heap.size x A ca L cl T ct) := Lib.hid (TtBox.box hA hL hT)
  have H0 : Hid (TtBox w ((w.alloc (.cells #[.slice A x.net.stops.length ca, .slice L x.net.lines.length cl, .slice T x.trips.length ct] 36)).alloc (.cells #[] 3)) w.heap.size x A ca L cl T ct) := Lib.hid (H0'.out.call (by go_grown))
  have hn := hx.trips
  have hm := hx.net.lines
  have O0 : Hid (OwnI ((w.alloc (.cells #[.slice A x.net.stops.length ca, .slice L x.net.lines.length cl, .slice T x.trips.length ct] 36)).alloc (.cells #[] 3)) (w.heap.size + 1) (.slice (some ⟨w.heap.size + 1, 0, none⟩) 0 0) []) := Lib.hid (by simpa using OwnE.empty (e := 3) (m := 1) (enc := encI) (w := (w.alloc (.cells #[.slice A x.net.stops.length ca, .slice L x.net.lines.length cl, .slice T x.trips.length ct] 36))) (Nat.le_refl _))
  have hz0 : w.heap.size + 1 ≤ ((w.alloc (.cells #[.slice A x.net.stops.length ca, .slice L x.net.lines.length cl, .slice T x.trips.length ct] 36)).alloc (.cells #[] 3)).heap.size := by simp
  clear H0' hA hL hT
  cases g1 : ttB x
  · have hcd : trB x s = false := by unfold trB; rw [g1]; rfl
    have HN := Lib.hid (And.intro (trI_no hcd) hcd)
    clear hcd
    go_enter Try.func22, Try.ntmps22
    go_wp2_with fail
    generalize ((w.alloc (.cells #[.slice A x.net.stops.length ca, .slice L x.net.lines.length cl, .slice T x.trips.length ct] 36)).alloc (.cells #[] 3)) = w0 at *
    refine (l5Good_any x _ _ _ _ _ _ _ H0.out.stops H0.out.lines H0.out.trips hx).mono ?_
    rintro e w1 ⟨rfl, hb1⟩
    have H1 := Lib.hid (H0.out.call hb1)
    have O1 := Lib.hid (O0.out.call hb1)
    have hz1 : w.heap.size + 1 ≤ w1.heap.size := Nat.le_trans hz0 hb1.size
    clear hb1
    obtain ⟨c0, c1, c2⟩ := H1.out.cells
    go_wp2_with (first | (go_at_call 68; refine (l4Time_any _ _).mono ?_; rintro e wt ⟨rfl, rfl⟩))
    go_ret2
    rw [HN.out.1, HN.out.2]
    exact O1.out.ret (by omega) H1.out.bel
  cases g2 : tmB s
  · have hcd : trB x s = false := by unfold trB; rw [g1, g2]; rfl
    have HN := Lib.hid (And.intro (trI_no hcd) hcd)
    clear hcd
    go_enter Try.func22, Try.ntmps22
    go_wp2_with fail
    generalize ((w.alloc (.cells #[.slice A x.net.stops.length ca, .slice L x.net.lines.length cl, .slice T x.trips.length ct] 36)).alloc (.cells #[] 3)) = w0 at *
    refine (l5Good_any x _ _ _ _ _ _ _ H0.out.stops H0.out.lines H0.out.trips hx).mono ?_
    rintro e w1 ⟨rfl, hb1⟩
    have H1 := Lib.hid (H0.out.call hb1)
    have O1 := Lib.hid (O0.out.call hb1)
    have hz1 : w.heap.size + 1 ≤ w1.heap.size := Nat.le_trans hz0 hb1.size
    clear hb1
    obtain ⟨c0, c1, c2⟩ := H1.out.cells
    go_wp2_with (first | (go_at_call 68; refine (l4Time_any _ _).mono ?_; rintro e wt ⟨rfl, rfl⟩))
    go_ret2
    rw [HN.out.1, HN.out.2]
    exact O1.out.ret (by omega) H1.out.bel
  have hcd : trB x s = true := by unfold trB; rw [g1, g2]; rfl
  have HY := Lib.hid (And.intro (trI_yes hcd) hcd)
  have HTi : Hid (∀ k, k < x.trips.length → Ti x k) := Lib.hid (fun k hk => ti_of g1 hk)
  clear hcd
  go_enter Try.func22, Try.ntmps22
  go_wp2_with fail
  generalize ((w.alloc (.cells #[.slice A x.net.stops.length ca, .slice L x.net.lines.length cl, .slice T x.trips.length ct] 36)).alloc (.cells #[] 3)) = w0 at *
  refine (l5Good_any x _ _ _ _ _ _ _ H0.out.stops H0.out.lines H0.out.trips hx).mono ?_
  rintro e w1 ⟨rfl, hb1⟩
  have H1 := Lib.hid (H0.out.call hb1)
  have O1 := Lib.hid (O0.out.call hb1)
  have hz1 : w.heap.size + 1 ≤ w1.heap.size := Nat.le_trans hz0 hb1.size
  clear hb1
  obtain ⟨c0, c1, c2⟩ := H1.out.cells
  go_wp2_with (first | (go_at_call 68; refine (l4Time_any _ _).mono ?_; rintro e wt ⟨rfl, rfl⟩))
  clear c0 c1 c2
  go_loopw [6, 7] (fun v i wr => ∃ k : Nat, k ≤ x.trips.length ∧ i = .int .i64 k ∧ OwnI wr (w.heap.size + 1) v (pickI (idF x) (runsF x s) k) ∧ Below (w.heap.size + 1) w1 wr) (fun _ i _ => x.trips.length - (intOf i).toNat)
  case atStart => exact ⟨0, Nat.zero_le _, rfl, O1.out, Below.refl _ _⟩
  case round =>
    obtain ⟨k, hk, rfl, ho, hb⟩ := hrel
    have O3 := Lib.hid ho
    have H3 := Lib.hid (H1.out.callB hb (Nat.lt_succ_self _))
    have HB := Lib.hid hb
    have hz3 : w.heap.size + 1 ≤ wr.heap.size := Nat.le_trans hz1 hb.size
    have hgr : w.heap.size < wr.heap.size := by omega
    have hpl := pick_len (idF x) (runsF x s) k
    clear ho hb
    obtain ⟨c0, c1, c2⟩ := H3.out.cells
    by_cases hlt : k < x.trips.length
    · obtain ⟨b, o, rfl, hbl, d0, d1, d2⟩ := I3sIn.at H3.out.trips hlt
      have hik : (k : Int) < (x.trips.length : Int) := by omega
      have hti := HTi.out k hlt
      obtain ⟨y, hy⟩ : ∃ y, y = nth3 x.trips k := ⟨_, rfl⟩
      have u1 := hti.b0
      have u2 := hti.b1
      have u3 := hti.c0
      have u4 := hti.c1
      have hnet := hti.net
      rw [← hy] at d0 d1 d2 u1 u2 u3 u4
      have HID : Hid (idF x k = y.a) := Lib.hid (by unfold idF; rw [hy])
      have HRN : Hid (runsF x s k = (decide (y.c ≤ s) && decide (s < endI x y))) := Lib.hid (by unfold runsF; rw [hy])
      have HY3 := Lib.hid hy
      have HTk := Lib.hid hti
      clear hy hti
      by_cases t1 : y.c ≤ s
      · by_cases t2 : s < endI x y
        · have HF : Hid (pickI (idF x) (runsF x s) (k + 1) = pickI (idF x) (runsF x s) k ++ [y.a]) := Lib.hid (by rw [pick_yes (by rw [HRN.out]; simp; exact ⟨t1, t2⟩), HID.out])
          go_wp2_with fail
          refine (l5End_any x _ _ _ _ _ _ k _ H3.out.stops H3.out.lines H3.out.trips HTk.out hn hm).mono ?_
          rintro e w4 ⟨rfl, hb4⟩
          rw [← HY3.out]
          have H4 := Lib.hid (H3.out.call hb4)
          have O4 := Lib.hid (O3.out.call hb4)
          have HB4 := Lib.hid (HB.out.trans (hb4.mono (by omega)))
          have hz4 : w.heap.size + 1 ≤ w4.heap.size := Nat.le_trans hz3 hb4.size
          have hbl4 : b < w4.heap.size := Nat.lt_of_lt_of_le hbl hb4.size
          have d0' := (hb4.cell (p := ⟨b, o + k * 3, none⟩) hbl).trans d0
          clear hb4 c0 c1 c2 d0 d1 d2
          obtain ⟨c0, c1, c2⟩ := H4.out.cells
          go_wp2_with (at_builtin; refine wp_appI rfl _ _ rfl (w.heap.size + 1) _ (pickI (idF x) (runsF x s) k) y.a _ O4.out rfl _ rfl (by simp) (by omega) (by omega) ?_; intro v' w' ho' hb'; have O6 := Lib.hid ho'; have HB6 := Lib.hid (HB4.out.trans hb'); clear ho' hb')
          go_roundw
          case rel => exact ⟨k + 1, by omega, by go_num, by rw [HF.out]; exact O6.out, HB6.out⟩
          case measure => simp [intOf]; omega
        · have HF : Hid (pickI (idF x) (runsF x s) (k + 1) = pickI (idF x) (runsF x s) k) := Lib.hid (pick_no (by rw [HRN.out]; simp; intro _; omega))
          go_wp2_with fail
          refine (l5End_any x _ _ _ _ _ _ k _ H3.out.stops H3.out.lines H3.out.trips HTk.out hn hm).mono ?_
          rintro e w4 ⟨rfl, hb4⟩
          rw [← HY3.out]
          have H4 := Lib.hid (H3.out.call hb4)
          have O4 := Lib.hid (O3.out.call hb4)
          have HB4 := Lib.hid (HB.out.trans (hb4.mono (by omega)))
          have hz4 : w.heap.size + 1 ≤ w4.heap.size := Nat.le_trans hz3 hb4.size
          have hbl4 : b < w4.heap.size := Nat.lt_of_lt_of_le hbl hb4.size
          have d0' := (hb4.cell (p := ⟨b, o + k * 3, none⟩) hbl).trans d0
          clear hb4 c0 c1 c2 d0 d1 d2
          obtain ⟨c0, c1, c2⟩ := H4.out.cells
          go_wp2_with fail
          go_roundw
          case rel => exact ⟨k + 1, by omega, by go_num, by rw [HF.out]; exact O4.out, HB4.out⟩
          case measure => simp [intOf]; omega
      · have HF : Hid (pickI (idF x) (runsF x s) (k + 1) = pickI (idF x) (runsF x s) k) := Lib.hid (pick_no (by rw [HRN.out]; simp; intro h; omega))
        go_wp2_with fail
        go_roundw
        case rel => exact ⟨k + 1, by omega, by go_num, by rw [HF.out]; exact O3.out, HB.out⟩
        case measure => simp [intOf]; omega
    · obtain rfl : k = x.trips.length := by omega
      go_wp2_with fail
      go_ret2
      rw [HY.out.1, HY.out.2]
      exact O3.out.ret (by omega) H3.out.bel

end Go.Proofs.Ytmlggpegoapmfaa
