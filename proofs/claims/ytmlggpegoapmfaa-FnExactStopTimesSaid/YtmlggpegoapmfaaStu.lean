/- StopTimes: contracts. -/
import Derived.Test.YtmlggpegoapmfaaStt
namespace Go.Proofs.Ytmlggpegoapmfaa
open Go.ChangeShapes Go.WideShapes Go.ChangeAt Go.RowKit Go.PlainAid
set_option linter.unusedVariables false
set_option linter.unusedSimpArgs false

/-- The answer of StopTimes. -/
def stB (x : TTD) (id : Int) : Bool := numB (ttB x) (idI x.trips id)
def stI (x : TTD) (id : Int) : List Int := if stB x id = true then pickI (atI x (idI x.trips id).toNat) yesN (lnI x (idI x.trips id).toNat).stops.length else []
theorem stI_no {x : TTD} {id : Int} (h : stB x id = false) : stI x id = [] := by unfold stI; rw [h]; rfl
theorem stI_yes {x : TTD} {id : Int} (h : stB x id = true) : stI x id = pickI (atI x (idI x.trips id).toNat) yesN (lnI x (idI x.trips id).toNat).stops.length := by unfold stI; rw [h]; rfl
theorem stI_len (x : TTD) (id : Int) (hx : FitsT x) : (stI x id).length ≤ 1048576 := by
  cases h : stB x id
  · rw [stI_no h]; simp
  · rw [stI_yes h, all_len]
    have hg : ttB x = true := by cases g : ttB x; · unfold stB numB at h; rw [g] at h; exact absurd h (by simp)
                                 · rfl
    have h0 : ¬ idI x.trips id < 0 := fun hn => by unfold stB at h; rw [(num_no (.inr hn)).2] at h; exact absurd h (by simp)
    have hd := (ti_of hg (k := (idI x.trips id).toNat) (by have := (idI_bd x.trips id).2; omega)).hd.1
    unfold LineHd at hd
    omega
theorem RetI1.out {xs : List Int} {w w0 w' : World} {e : Ending} (h : RetI1 xs w0 e w') (hb : Below w.heap.size w w0) : ∃ A c, e = .returned (.slice A xs.length c) ∧ IntsIn w' (Zone.new w.heap.size w'.heap.size) A xs ∧ Below w.heap.size w w' := by
  obtain ⟨A, c, e, h1, h2⟩ := h
  exact ⟨A, c, e, h1.mono (Zone.new_le hb.size (Nat.le_refl _)), hb.trans (h2.mono hb.size)⟩

set_option maxRecDepth 100000 in
set_option maxHeartbeats 4000000 in
theorem implStopTimes_any (x : TTD) (A L T : Option Addr) (ca cl ct : Nat) (id : Int) (w : World) (hA : StrsIn w (Zone.below w.heap.size) A x.net.stops) (hL : LinesIn w (Zone.below w.heap.size) L x.net.lines) (hT : I3sIn w (Zone.below w.heap.size) T x.trips) (hx : FitsT x) :
    Calls Try.prog 29 #[.agg #[.slice A x.net.stops.length ca, .slice L x.net.lines.length cl, .slice T x.trips.length ct], .int .i64 id] w (RetInts (stI x id) (stB x id) w) := by
  have H0 : Hid (TtBox w (w.alloc (.cells #[.slice A x.net.stops.length ca, .slice L x.net.lines.length cl, .slice T x.trips.length ct] 36)) w.heap.size x A ca L cl T ct) := Lib.hid (TtBox.box hA hL hT)
  have hn := hx.trips
  have hm := hx.net.lines
  clear hA hL hT
  cases g : ttB x
  · have hcd : stB x id = false := by unfold stB numB; rw [g]; rfl
    have HN := Lib.hid (And.intro (stI_no hcd) hcd)
    clear hcd
    go_enter Try.func29, Try.ntmps29
    go_wp2_with fail
    refine (isValidTimetable_any x _ _ _ _ _ _  _ H0.out.stops H0.out.lines H0.out.trips hx).mono ?_
    rintro e w1 ⟨rfl, hb1⟩
    have H1 := Lib.hid (H0.out.call hb1)
    clear hb1
    (try clear c0 c1 c2)
    obtain ⟨c0, c1, c2⟩ := H1.out.cells
    go_wp2_with fail
    go_ret2
    rw [HN.out.1, HN.out.2]
    exact retNil rfl H1.out.bel
  by_cases h0 : idI x.trips id < 0
  · have hcd : stB x id = false := by unfold stB; exact (num_no (.inr h0)).2
    have HN := Lib.hid (And.intro (stI_no hcd) hcd)
    clear hcd
    go_enter Try.func29, Try.ntmps29
    go_wp2_with fail
    refine (isValidTimetable_any x _ _ _ _ _ _  _ H0.out.stops H0.out.lines H0.out.trips hx).mono ?_
    rintro e w1 ⟨rfl, hb1⟩
    have H1 := Lib.hid (H0.out.call hb1)
    clear hb1
    (try clear c0 c1 c2)
    obtain ⟨c0, c1, c2⟩ := H1.out.cells
    go_wp2_with fail
    refine (tripIndex_any x _ _ _ _ _ _ id _ H1.out.trips hn).mono ?_
    rintro e w2 ⟨rfl, hb2⟩
    have H2 := Lib.hid (H1.out.call hb2)
    clear hb2
    (try clear c0 c1 c2)
    obtain ⟨c0, c1, c2⟩ := H2.out.cells
    go_wp2_with fail
    go_ret2
    rw [HN.out.1, HN.out.2]
    exact retNil rfl H2.out.bel
  obtain ⟨i, hi⟩ : ∃ i : Nat, idI x.trips id = i := ⟨(idI x.trips id).toNat, by omega⟩
  have hil : i < x.trips.length := by have := (idI_bd x.trips id).2; omega
  have HTi := Lib.hid (ti_of g hil)
  have hcd : stB x id = true := by unfold stB; rw [g]; exact (num_yes (by omega)).2
  have HY := Lib.hid (And.intro (stI_yes hcd) hcd)
  rw [hi, Int.toNat_natCast] at HY
  have HI := Lib.hid hi
  have hi0 : ¬ ((i : Int) < 0) := by omega
  clear hcd hi h0
  go_enter Try.func29, Try.ntmps29
  go_wp2_with fail
  refine (isValidTimetable_any x _ _ _ _ _ _  _ H0.out.stops H0.out.lines H0.out.trips hx).mono ?_
  rintro e w1 ⟨rfl, hb1⟩
  have H1 := Lib.hid (H0.out.call hb1)
  clear hb1
  (try clear c0 c1 c2)
  obtain ⟨c0, c1, c2⟩ := H1.out.cells
  go_wp2_with fail
  refine (tripIndex_any x _ _ _ _ _ _ id _ H1.out.trips hn).mono ?_
  rintro e w2 ⟨rfl, hb2⟩
  have H2 := Lib.hid (H1.out.call hb2)
  clear hb2
  (try clear c0 c1 c2)
  obtain ⟨c0, c1, c2⟩ := H2.out.cells
  rw [HI.out]
  go_wp2_with fail
  obtain ⟨b, o, rfl, hbl, d0, d1, d2⟩ := I3sIn.at H2.out.trips hil
  have hik : (i : Int) < x.trips.length := by omega
  have hti := HTi.out
  have HX : Hid (stI x id = pickI (atT x (nth3 x.trips i)) yesN ((nthL x.net.lines (nth3 x.trips i).b.toNat).runs.length + 1)) := Lib.hid (by
    rw [HY.out.1]
    have h := hti.hd.1
    unfold LineHd at h
    rw [← h.2.2]
    rfl)
  have u1 := hti.b0
  have u2 := hti.b1
  have u3 := hti.c0
  have u4 := hti.c1
  have HN := Lib.hid hti.net
  obtain ⟨y, hy⟩ : ∃ y, y = nth3 x.trips i := ⟨_, rfl⟩
  rw [← hy] at d0 d1 d2 u1 u2 u3 u4 HX
  clear hti hy
  go_still_tail 6, (by kernel_rfl)
  go_wp2_with fail
  have HD : Hid (Below w2.heap.size w2 w2.drew) := Lib.hid ((Below.refl _ _).drew)
  have H3 := Lib.hid (H2.out.call HD.out)
  refine (stopTimes_any x _ _ _ _ _ _ y _ H3.out.stops H3.out.lines H3.out.trips HN.out u1 u2 u3 u4 hm).mono ?_
  rintro e w6 ⟨A6, c6, rfl, hi6, hb6⟩
  have HI6 := Lib.hid (hi6.mono (Zone.new_le H3.out.bel.size (Nat.le_refl _)))
  have HB6 := Lib.hid (H3.out.bel.trans (hb6.mono H3.out.bel.size))
  clear hi6 hb6 d0 d1 d2
  go_wp2_with fail
  go_ret2
  rw [HX.out, HY.out.2]
  exact ⟨A6, c6, rfl, HI6.out, HB6.out⟩

set_option maxRecDepth 100000 in
set_option maxHeartbeats 4000000 in
theorem specStopTimes_any (x : TTD) (A L T : Option Addr) (ca cl ct : Nat) (id : Int) (w : World) (hA : StrsIn w (Zone.below w.heap.size) A x.net.stops) (hL : LinesIn w (Zone.below w.heap.size) L x.net.lines) (hT : I3sIn w (Zone.below w.heap.size) T x.trips) (hx : FitsT x) :
    Calls Try.prog 28 #[.agg #[.slice A x.net.stops.length ca, .slice L x.net.lines.length cl, .slice T x.trips.length ct], .int .i64 id] w (RetInts (stI x id) (stB x id) w) := by
  have H0 : Hid (TtBox w (w.alloc (.cells #[.slice A x.net.stops.length ca, .slice L x.net.lines.length cl, .slice T x.trips.length ct] 36)) w.heap.size x A ca L cl T ct) := Lib.hid (TtBox.box hA hL hT)
  have hn := hx.trips
  have hm := hx.net.lines
  clear hA hL hT
  cases g : ttB x
  · have hcd : stB x id = false := by unfold stB numB; rw [g]; rfl
    have HN := Lib.hid (And.intro (stI_no hcd) hcd)
    clear hcd
    go_enter Try.func28, Try.ntmps28
    go_wp2_with fail
    refine (l5Good_any x _ _ _ _ _ _  _ H0.out.stops H0.out.lines H0.out.trips hx).mono ?_
    rintro e w1 ⟨rfl, hb1⟩
    have H1 := Lib.hid (H0.out.call hb1)
    clear hb1
    (try clear c0 c1 c2)
    obtain ⟨c0, c1, c2⟩ := H1.out.cells
    go_wp2_with fail
    go_ret2
    rw [HN.out.1, HN.out.2]
    exact ⟨_, _, rfl, fun h => absurd h (by simp), H1.out.bel.alloc H1.out.bel.size _⟩
  by_cases h0 : idI x.trips id < 0
  · have hcd : stB x id = false := by unfold stB; exact (num_no (.inr h0)).2
    have HN := Lib.hid (And.intro (stI_no hcd) hcd)
    clear hcd
    go_enter Try.func28, Try.ntmps28
    go_wp2_with fail
    refine (l5Good_any x _ _ _ _ _ _  _ H0.out.stops H0.out.lines H0.out.trips hx).mono ?_
    rintro e w1 ⟨rfl, hb1⟩
    have H1 := Lib.hid (H0.out.call hb1)
    clear hb1
    (try clear c0 c1 c2)
    obtain ⟨c0, c1, c2⟩ := H1.out.cells
    go_wp2_with fail
    refine (l5Find_any x _ _ _ _ _ _ id _ H1.out.trips hn).mono ?_
    rintro e w2 ⟨rfl, hb2⟩
    have H2 := Lib.hid (H1.out.call hb2)
    clear hb2
    (try clear c0 c1 c2)
    obtain ⟨c0, c1, c2⟩ := H2.out.cells
    go_wp2_with fail
    go_ret2
    rw [HN.out.1, HN.out.2]
    exact ⟨_, _, rfl, fun h => absurd h (by simp), H2.out.bel.alloc H2.out.bel.size _⟩
  obtain ⟨i, hi⟩ : ∃ i : Nat, idI x.trips id = i := ⟨(idI x.trips id).toNat, by omega⟩
  have hil : i < x.trips.length := by have := (idI_bd x.trips id).2; omega
  have HTi := Lib.hid (ti_of g hil)
  have hcd : stB x id = true := by unfold stB; rw [g]; exact (num_yes (by omega)).2
  have HY := Lib.hid (And.intro (stI_yes hcd) hcd)
  rw [hi, Int.toNat_natCast] at HY
  have HI := Lib.hid hi
  have hi0 : ¬ ((i : Int) < 0) := by omega
  clear hcd hi h0
  go_enter Try.func28, Try.ntmps28
  go_wp2_with fail
  refine (l5Good_any x _ _ _ _ _ _  _ H0.out.stops H0.out.lines H0.out.trips hx).mono ?_
  rintro e w1 ⟨rfl, hb1⟩
  have H1 := Lib.hid (H0.out.call hb1)
  clear hb1
  (try clear c0 c1 c2)
  obtain ⟨c0, c1, c2⟩ := H1.out.cells
  go_wp2_with fail
  refine (l5Find_any x _ _ _ _ _ _ id _ H1.out.trips hn).mono ?_
  rintro e w2 ⟨rfl, hb2⟩
  have H2 := Lib.hid (H1.out.call hb2)
  clear hb2
  (try clear c0 c1 c2)
  obtain ⟨c0, c1, c2⟩ := H2.out.cells
  rw [HI.out]
  go_wp2_with fail
  have hC : ∀ w', Below w2.heap.size w2 w' → Tt3 w' w.heap.size x A ca L cl T ct := fun w' h => (H2.out.call h).cells
  unfold Tt3 at hC
  clear c0 c1 c2
  go_region_held3 (fun w' => Below w2.heap.size w2 w') (repeat' first | assumption | exact Nat.le_refl _ | exact Below.refl _ _ | (refine bel_drew ?_) | (refine bel_alloc ?_ _) | (refine bel_set ?_ ?_ _))
    (first
      | (go_at_call 65; refine (l5Find_any x _ _ _ _ _ _ id _ ((H2.out.call ‹Below w2.heap.size w2 _›).trips) hn).mono ?_; rintro e w5 ⟨rfl, hb5⟩; rw [HI.out]; have hB5 := bel_call ‹Below w2.heap.size w2 _› hb5; clear hb5)
      | (go_at_call 73; refine (l5Times_any x _ _ _ _ _ _ i _ ((H2.out.call ‹Below w2.heap.size w2 _›).stops) ((H2.out.call ‹Below w2.heap.size w2 _›).lines) ((H2.out.call ‹Below w2.heap.size w2 _›).trips) HTi.out hn hm).mono ?_; rintro e w6 ⟨A6, c6, rfl, hi6, hb6⟩; have HI6 := Lib.hid (hi6.mono (Zone.new_le (Nat.le_trans H2.out.bel.size (‹Below w2.heap.size w2 w5›).size) (Nat.le_refl _))); have hB6 := bel_call ‹Below w2.heap.size w2 w5› hb6; clear hi6 hb6))
  all_goals
    have HB6 := Lib.hid (H2.out.bel.trans (hB6.mono H2.out.bel.size))
    clear hC hB6
    go_wp2_with fail
    go_ret2
    rw [HY.out.1, HY.out.2]
    exact ⟨A6, c6, rfl, HI6.out, HB6.out⟩

end Go.Proofs.Ytmlggpegoapmfaa
