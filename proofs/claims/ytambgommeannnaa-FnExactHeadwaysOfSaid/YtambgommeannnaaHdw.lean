/- Headways: the program. -/
import Derived.Test.YtambgommeannnaaHdp
import Derived.Test.YtambgommeannnaaPut
namespace Go.Proofs.Ytambgommeannnaa
open Go.ChangeShapes Go.WideShapes Go.ChangeAt Go.RowKit Go.PlainAid
set_option linter.unusedVariables false
set_option linter.unusedSimpArgs false

/-- The trips of a line in new memory, in the order of their starts. -/
def RetTs (xs : List Int) (n : Nat) (w : World) (e : Ending) (w' : World) : Prop :=
  ∃ ys A c, e = .returned (.slice A ys.length c) ∧ ys.map (fun t => t.c) = xs ∧ ys.length ≤ n ∧ I3sIn w' (Zone.new w.heap.size w'.heap.size) A ys ∧ Below w.heap.size w w'
set_option maxRecDepth 100000 in
set_option maxHeartbeats 4000000 in
theorem tripsOf_any (x : TTD) (A L T : Option Addr) (ca cl ct : Nat) (l : Int) (w : World) (hA : StrsIn w (Zone.below w.heap.size) A x.net.stops) (hL : LinesIn w (Zone.below w.heap.size) L x.net.lines) (hT : I3sIn w (Zone.below w.heap.size) T x.trips) (hn : x.trips.length ≤ 12) :
    Calls Try.prog 139 #[.agg #[.slice A x.net.stops.length ca, .slice L x.net.lines.length cl, .slice T x.trips.length ct], .int .i64 l] w (RetTs (stF x l x.trips.length) x.trips.length w) := by
  have H0 : Hid (TtBox w (w.alloc (.cells #[.slice A x.net.stops.length ca, .slice L x.net.lines.length cl, .slice T x.trips.length ct] 49)) w.heap.size x A ca L cl T ct) := Lib.hid (TtBox.box hA hL hT)
  have hz0 : w.heap.size + 1 ≤ (w.alloc (.cells #[.slice A x.net.stops.length ca, .slice L x.net.lines.length cl, .slice T x.trips.length ct] 49)).heap.size := by simp
  have hgr0 : w.heap.size < (w.alloc (.cells #[.slice A x.net.stops.length ca, .slice L x.net.lines.length cl, .slice T x.trips.length ct] 49)).heap.size := by simp
  have O0 : Hid (OwnT (w.alloc (.cells #[.slice A x.net.stops.length ca, .slice L x.net.lines.length cl, .slice T x.trips.length ct] 49)) (w.heap.size + 1) (.slice none 0 0) []) := Lib.hid OwnE.nil
  clear hA hL hT
  go_enter Try.func139, Try.ntmps139
  go_wp2_with fail
  generalize (w.alloc (.cells #[.slice A x.net.stops.length ca, .slice L x.net.lines.length cl, .slice T x.trips.length ct] 49)) = w0 at *
  obtain ⟨c0, c1, c2⟩ := H0.out.cells
  go_wp2_with fail
  clear c0 c1 c2
  go_loopw [5, 7, 11] (fun v _ i wr => ∃ k : Nat, k ≤ x.trips.length ∧ i = .int .i64 k ∧ OwnT wr (w.heap.size + 1) v (pkT x l k) ∧ Below (w.heap.size + 1) w0 wr) (fun _ _ i _ => x.trips.length - (intOf i).toNat)
  case atStart => exact ⟨0, Nat.zero_le _, rfl, O0.out, Below.refl _ _⟩
  case round =>
    obtain ⟨k, hk, rfl, ho, hb⟩ := hrel
    have O3 := Lib.hid ho
    have H3 := Lib.hid (H0.out.callB hb (Nat.lt_succ_self _))
    have HB := Lib.hid hb
    have hz3 : w.heap.size + 1 ≤ wr.heap.size := Nat.le_trans hz0 hb.size
    have hgr : w.heap.size < wr.heap.size := by omega
    have hpl := pkT_len x l k
    clear ho hb
    by_cases hlt : k < x.trips.length
    · obtain ⟨b, o, rfl, hbl, d0, d1, d2⟩ := I3sIn.at H3.out.trips hlt
      have hik : (k : Int) < (x.trips.length : Int) := by omega
      obtain ⟨y, hy⟩ : ∃ y, y = nth3 x.trips k := ⟨_, rfl⟩
      rw [← hy] at d0 d1 d2
      have HY3 := Lib.hid hy
      clear hy
      obtain ⟨ya, yb, yc⟩ := y
      simp only [] at d0 d1 d2
      have HBw : Hid (Below (w.heap.size + 1) w0 (wr.alloc (.cells #[.int .i64 ya, .int .i64 yb, .int .i64 yc] 94))) := Lib.hid (HB.out.alloc hz3 _)
      have O3w := Lib.hid (O3.out.alloc (.cells #[.int .i64 ya, .int .i64 yb, .int .i64 yc] 94))
      have hz3w : w.heap.size + 1 ≤ (wr.alloc (.cells #[.int .i64 ya, .int .i64 yb, .int .i64 yc] 94)).heap.size := by simp; omega
      by_cases t1 : yb = l
      · subst t1
        have HF : Hid (pkT x yb (k + 1) = pkT x yb k ++ [⟨ya, yb, yc⟩]) := Lib.hid (by rw [pkT_yes (by rw [← HY3.out]), ← HY3.out])
        go_wp2_with (at_builtin; refine wp_appT rfl _ _ rfl (w.heap.size + 1) _ (pkT x yb k) ⟨ya, yb, yc⟩ _ O3w.out rfl _ rfl (by simp) (by omega) (by omega) ?_; intro v' w' ho' hb'; have O6 := Lib.hid ho'; have HB6 := Lib.hid (HBw.out.trans hb'); clear ho' hb')
        go_roundw
        case rel => exact ⟨k + 1, by omega, by go_num, by rw [HF.out]; exact O6.out, HB6.out⟩
        case measure => simp [intOf]; omega
      · have HF : Hid (pkT x l (k + 1) = pkT x l k) := Lib.hid (pkT_no (by rw [← HY3.out]; exact t1))
        go_wp2_with fail
        go_roundw
        case rel => exact ⟨k + 1, by omega, by go_num, by rw [HF.out]; exact O3w.out, HBw.out⟩
        case measure => simp [intOf]; omega
    · obtain rfl : k = x.trips.length := by omega
      go_wp2_with fail
      refine (sortTrips_any (w.heap.size + 1) _ (pkT x l x.trips.length) _ O3.out hz3 (by omega)).mono ?_
      rintro e w5 ⟨rfl, ys, A5, c5, rfl, hp, hs, hi, hb5⟩
      have HI := Lib.hid hi
      have HB5 := Lib.hid hb5
      have HM := Lib.hid (stF_of hp hs)
      have hyl : ys.length ≤ x.trips.length := by rw [hp.length_eq]; exact hpl
      clear hi hb5 hp hs
      go_wp2_with fail
      go_ret
      exact ⟨ys, A5, c5, rfl, HM.out, hyl, HI.out.mono (Zone.new_le (by omega) (Nat.le_refl _)), H3.out.bel.trans (HB5.out.mono (by omega))⟩

set_option maxRecDepth 100000 in
set_option maxHeartbeats 4000000 in
theorem implHeadwaysOf_any (x : TTD) (A L T : Option Addr) (ca cl ct : Nat) (l : Int) (w : World) (hA : StrsIn w (Zone.below w.heap.size) A x.net.stops) (hL : LinesIn w (Zone.below w.heap.size) L x.net.lines) (hT : I3sIn w (Zone.below w.heap.size) T x.trips) (hx : FitsT x) :
    Calls Try.prog 61 #[.agg #[.slice A x.net.stops.length ca, .slice L x.net.lines.length cl, .slice T x.trips.length ct], .int .i64 l] w (RetInts (hwI x l) (hwB x l) w) := by
  have H0 : Hid (TtBox w (w.alloc (.cells #[.slice A x.net.stops.length ca, .slice L x.net.lines.length cl, .slice T x.trips.length ct] 49)) w.heap.size x A ca L cl T ct) := Lib.hid (TtBox.box hA hL hT)
  have hn := hx.trips
  have hm := hx.net.lines
  have hz0 : w.heap.size + 1 ≤ (w.alloc (.cells #[.slice A x.net.stops.length ca, .slice L x.net.lines.length cl, .slice T x.trips.length ct] 49)).heap.size := by simp
  clear hA hL hT
  cases g1 : ttB x
  · have hcd : hwB x l = false := by unfold hwB; rw [g1]; rfl
    have HN := Lib.hid (And.intro (hwI_no hcd) hcd)
    clear hcd
    go_enter Try.func61, Try.ntmps61
    go_wp2_with fail
    generalize (w.alloc (.cells #[.slice A x.net.stops.length ca, .slice L x.net.lines.length cl, .slice T x.trips.length ct] 49)) = w0 at *
    refine (isValidTimetable_any x _ _ _ _ _ _ _ H0.out.stops H0.out.lines H0.out.trips hx).mono ?_
    rintro e w1 ⟨rfl, hb1⟩
    have H1 := Lib.hid (H0.out.call hb1)
    have hz1 : w.heap.size + 1 ≤ w1.heap.size := Nat.le_trans hz0 hb1.size
    clear hb1
    obtain ⟨c0, c1, c2⟩ := H1.out.cells
    go_wp2_with fail
    go_ret2
    rw [HN.out.1, HN.out.2]
    exact retNil rfl H1.out.bel
  cases g2 : inB l 0 (x.net.lines.length - 1)
  · have hcd : hwB x l = false := by unfold hwB; rw [g1, g2]; rfl
    have HN := Lib.hid (And.intro (hwI_no hcd) hcd)
    clear hcd
    go_enter Try.func61, Try.ntmps61
    go_wp2_with fail
    generalize (w.alloc (.cells #[.slice A x.net.stops.length ca, .slice L x.net.lines.length cl, .slice T x.trips.length ct] 49)) = w0 at *
    refine (isValidTimetable_any x _ _ _ _ _ _ _ H0.out.stops H0.out.lines H0.out.trips hx).mono ?_
    rintro e w1 ⟨rfl, hb1⟩
    have H1 := Lib.hid (H0.out.call hb1)
    have hz1 : w.heap.size + 1 ≤ w1.heap.size := Nat.le_trans hz0 hb1.size
    clear hb1
    obtain ⟨c0, c1, c2⟩ := H1.out.cells
    go_wp2_with fail
    refine (isLine_any x.net _ _ _ _ l _ hm).mono ?_
    rintro e w2 ⟨rfl, hb2⟩
    rw [g2]
    have H2 := Lib.hid (H1.out.call hb2)
    have hz2 : w.heap.size + 1 ≤ w2.heap.size := Nat.le_trans hz1 hb2.size
    clear hb2 c0 c1 c2
    obtain ⟨c0, c1, c2⟩ := H2.out.cells
    go_wp2_with fail
    go_ret2
    rw [HN.out.1, HN.out.2]
    exact retNil rfl H2.out.bel
  have hcd : hwB x l = true := by unfold hwB; rw [g1, g2]; rfl
  have HY := Lib.hid (And.intro (hwI_yes hcd) hcd)
  have ht12 := (ttB_ok g1).2.1
  have HBD := Lib.hid (stF_bd g1 l)
  clear hcd
  go_enter Try.func61, Try.ntmps61
  go_wp2_with fail
  generalize (w.alloc (.cells #[.slice A x.net.stops.length ca, .slice L x.net.lines.length cl, .slice T x.trips.length ct] 49)) = w0 at *
  refine (isValidTimetable_any x _ _ _ _ _ _ _ H0.out.stops H0.out.lines H0.out.trips hx).mono ?_
  rintro e w1 ⟨rfl, hb1⟩
  have H1 := Lib.hid (H0.out.call hb1)
  have hz1 : w.heap.size + 1 ≤ w1.heap.size := Nat.le_trans hz0 hb1.size
  clear hb1
  obtain ⟨c0, c1, c2⟩ := H1.out.cells
  go_wp2_with fail
  refine (isLine_any x.net _ _ _ _ l _ hm).mono ?_
  rintro e w2 ⟨rfl, hb2⟩
  rw [g2]
  have H2 := Lib.hid (H1.out.call hb2)
  have hz2 : w.heap.size + 1 ≤ w2.heap.size := Nat.le_trans hz1 hb2.size
  clear hb2 c0 c1 c2
  obtain ⟨c0, c1, c2⟩ := H2.out.cells
  go_wp2_with fail
  refine (tripsOf_any x _ _ _ _ _ _ l _ H2.out.stops H2.out.lines H2.out.trips ht12).mono ?_
  rintro e w3 ⟨ys, A3, c3, rfl, hm3, hl3, hi3, hb3⟩
  have H3 := Lib.hid (H2.out.call hb3)
  have hz3 : w.heap.size + 1 ≤ w3.heap.size := Nat.le_trans hz2 hb3.size
  have HI3 := Lib.hid (hi3.mono (Zone.new_below (Nat.le_refl _)))
  have HM3 := Lib.hid hm3
  have hyl : (stF x l x.trips.length).length = ys.length := by rw [← hm3, List.length_map]
  have HYL := Lib.hid hyl
  clear hb3 hi3 hm3 hyl c0 c1 c2
  go_wp2_with fail
  go_loopw [6, 8] (fun v i wr => ∃ k j : Nat, j = k + 1 ∧ k ≤ ys.length - 1 ∧ i = .int .i64 j ∧ OwnI wr w3.heap.size v (difF (stF x l x.trips.length) k) ∧ Below w3.heap.size w3 wr) (fun _ i _ => ys.length - (intOf i).toNat)
  case atStart => exact ⟨0, 1, rfl, Nat.zero_le _, rfl, OwnE.nil, Below.refl _ _⟩
  case round =>
    obtain ⟨k, j, hj, hk, rfl, ho, hb⟩ := hrel
    have O4 := Lib.hid ho
    have HB := Lib.hid hb
    have hz4 := hb.size
    have H4 := Lib.hid (H3.out.call hb)
    have HI4 := Lib.hid (HI3.out.at_below hb)
    have hdl := difF_len (stF x l x.trips.length) k
    have HDL := Lib.hid hdl
    clear ho hb hdl
    have HJ := Lib.hid hj
    by_cases hlt : j < ys.length
    · obtain ⟨b, o, rfl, hbl, _, _, d2⟩ := I3sIn.at HI4.out hlt
      obtain ⟨b', o', e, _, _, _, d3⟩ := I3sIn.at HI4.out (k := k) (by omega)
      simp only [Option.some.injEq, Addr.mk.injEq, and_true] at e
      obtain ⟨rfl, rfl⟩ := e
      rw [← nth_map HM3.out hlt] at d2
      rw [← nth_map HM3.out (k := k) (by omega)] at d3
      have u1 := HBD.out j (by rw [HYL.out]; exact hlt)
      have u2 := HBD.out k (by rw [HYL.out]; omega)
      have HF : Hid (difF (stF x l x.trips.length) (k + 1) = difF (stF x l x.trips.length) k ++ [nth (stF x l x.trips.length) j - nth (stF x l x.trips.length) k]) := Lib.hid (by rw [HJ.out]; rfl)
      have hk1 : k < ys.length := by omega
      have hj1 : j ≤ 12 := by omega
      have hj0 : 0 < j := by omega
      have hwk : IntKind.i64.wrap ((j : Int) - 1) = (k : Int) := by rw [IntWalk.i64_in _ (by omega)]; omega
      have HJ2 := Lib.hid (show j + 1 = k + 1 + 1 by omega)
      clear hj
      have hD : ∀ w', Below w3.heap.size wr w' → w'.cell? ⟨b, o + j * 3 + 2, none⟩ = some (.int .i64 (nth (stF x l x.trips.length) j)) ∧ w'.cell? ⟨b, o + k * 3 + 2, none⟩ = some (.int .i64 (nth (stF x l x.trips.length) k)) := fun w' h => ⟨(h.cell (p := ⟨b, _, none⟩) hbl).trans d2, (h.cell (p := ⟨b, _, none⟩) hbl).trans d3⟩
      clear d2 d3
      generalize nth (stF x l x.trips.length) j = p1 at *
      generalize nth (stF x l x.trips.length) k = p0 at *
      have hik : (j : Int) < (ys.length : Int) := by omega
      have hik0 : (k : Int) < (ys.length : Int) := by omega
      have hwr : IntKind.i64.wrap (p1 - p0) = p1 - p0 := IntWalk.i64_in _ (by omega)
      go_wp2_with fail
      go_region_held3 (fun w' => Below w3.heap.size wr w') (repeat' first | assumption | exact Below.refl _ _ | exact hz4 | (refine Below.drew ?_) | (refine Below.alloc ?_ ?_ _))
        (first
          | (refine step_appsI (by rfl) _ _ (by rfl) w3.heap.size _ (difF (stF x l x.trips.length) k) [p1 - p0] _ (OwnE.call O4.out (by (repeat' first | assumption | exact Below.refl _ _ | (refine bel_drew ?_) | (refine bel_alloc ?_ _) | exact Nat.le_refl _))) (by rfl) _ 0 1 1 (by rfl) (by rfl) (fun j hj => by (obtain rfl : j = 0 := by simpa using hj); first | (go_simp; done) | (go_simp; rfl)) (by have := HDL.out; simp; omega) (by first | exact hz4 | (simp; omega)) ?_; intro v6 w6 ho6 hb6' _; have hb6r : Below w3.heap.size wr w6 := Below.trans (by assumption) hb6'; have hb6 : Below w3.heap.size w3 w6 := HB.out.trans hb6r)
          | fail)
      go_wp2_with fail
      go_roundw
      case rel => exact ⟨k + 1, j + 1, HJ2.out, by have := HJ2.out; omega, by go_num, by rw [HF.out]; exact ho6, hb6⟩
      case measure => simp [intOf]; omega
    · obtain rfl : k = ys.length - 1 := by omega
      clear hj
      go_wp2_with fail
      go_ret2
      rw [HY.out.1, HY.out.2, HYL.out]
      exact O4.out.ret (by omega) H4.out.bel

end Go.Proofs.Ytambgommeannnaa
