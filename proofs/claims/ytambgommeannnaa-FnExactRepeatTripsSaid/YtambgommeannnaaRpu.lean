/- RepeatTrips: the loop, both sides. -/
import Derived.Test.YtambgommeannnaaRpt
import Derived.Deep.CutBlock
namespace Go.Proofs.Ytambgommeannnaa
open Go.ChangeShapes Go.WideShapes Go.ChangeAt Go.RowKit Go.PlainAid
set_option linter.unusedVariables false
set_option linter.unusedSimpArgs false

set_option maxRecDepth 100000 in
set_option maxHeartbeats 4000000 in
theorem implRepeat_go (x : TTD) (l s t h : Int) (b o ca bl ol cl bt ot ct : Nat) (w : World) (hA : StrsIn w (Zone.below w.heap.size) (some ⟨b, o, none⟩) x.net.stops) (hL : LinesIn w (Zone.below w.heap.size) (some ⟨bl, ol, none⟩) x.net.lines) (hT : I3sIn w (Zone.below w.heap.size) (some ⟨bt, ot, none⟩) x.trips) (hx : FitsT x) (hct : x.trips.length ≤ ct) (hb : ttB x = true) (hi : inB l 0 (x.net.lines.length - 1) = true) (htm : tmB s = true) (h1 : 1 ≤ h) (ht9 : t ≤ 9223372036854775807) (hh9 : h ≤ 9223372036854775807) :
    Calls Try.prog 67 #[.agg #[.slice (some ⟨b, o, none⟩) x.net.stops.length ca, .slice (some ⟨bl, ol, none⟩) x.net.lines.length cl, .slice (some ⟨bt, ot, none⟩) x.trips.length ct], .int .i64 l, .int .i64 s, .int .i64 t, .int .i64 h] w (RetTtI (rpR x l s t h).1 (rpR x l s t h).2.1 (rpR x l s t h).2.2 w) := by
  have HRY := Lib.hid (rpR_yes (x := x) (l := l) (s := s) (t := t) (h := h) hb hi htm h1)
  have HX := Lib.hid (netX_of (ttB_net hb))
  have hst := tmB_iff.mp htm
  have hnl : x.net.lines.length ≤ 1048576 := hx.net.lines
  have hwl : IntKind.i64.wrap ((x.net.lines.length : Int) - 1) = (x.net.lines.length : Int) - 1 := IntWalk.i64_in _ (by omega)
  have HI := Lib.hid hi
  have HTM := Lib.hid htm
  have HBX := Lib.hid hb
  have hd : decide (h ≤ 0) = false := decide_eq_false (by omega)
  clear hi htm
  obtain ⟨W0, hW0⟩ : ∃ W0, W0 = ((w.alloc (.cells #[.slice (some ⟨b, o, none⟩) x.net.stops.length ca, .slice (some ⟨bl, ol, none⟩) x.net.lines.length cl, .slice (some ⟨bt, ot, none⟩) x.trips.length ct] 49)).alloc (.cells #[.slice none 0 0, .slice none 0 0, .slice none 0 0] 49)) := ⟨_, rfl⟩
  have H0 : Hid (TW w W0 x (some ⟨b, o, none⟩) ca (some ⟨bl, ol, none⟩) cl (some ⟨bt, ot, none⟩) ct) := Lib.hid (by rw [hW0]; exact TW.start hA hL hT)
  have htl : x.trips.length ≤ 1048576 := hx.trips
  clear hA hL hT
  go_enter Try.func67, Try.ntmps67
  go_upto_region 1 with fail
  rw [← hW0]
  clear hW0
  obtain ⟨c0_0, c0_1, c0_2⟩ := H0.out.box.cells
  have HG1 := Lib.hid (isValidTimetable_any x (some ⟨b, o, none⟩) (some ⟨bl, ol, none⟩) (some ⟨bt, ot, none⟩) ca cl ct W0 H0.out.box.stops H0.out.box.lines H0.out.box.trips hx)
  go_wp2_with fail
  refine HG1.out.mono ?_
  rintro e w1 ⟨rfl, hb1⟩
  rw [hb]
  have H1 := Lib.hid (H0.out.call hb1)
  have hz1 := hb1.size
  clear hb1 c0_0 c0_1 c0_2
  obtain ⟨c1_0, c1_1, c1_2⟩ := H1.out.box.cells
  have HG2 := Lib.hid (isLine_any x.net (some ⟨b, o, none⟩) (some ⟨bl, ol, none⟩) ca cl l w1 hnl)
  go_wp2_with fail
  refine HG2.out.mono ?_
  rintro e w2 ⟨rfl, hb2⟩
  rw [HI.out]
  have H2 := Lib.hid (H1.out.call hb2)
  have hz2 := hb2.size
  clear hb2 c1_0 c1_1 c1_2
  obtain ⟨c2_0, c2_1, c2_2⟩ := H2.out.box.cells
  have HG3 := Lib.hid (copyTT_any x b o ca bl ol cl bt ot ct w2 H2.out.box.stops H2.out.box.lines H2.out.box.trips hx HX.out)
  go_wp2_with (go_at_call 89; refine (isValidTime_any _ _).mono ?_; rintro e w9 ⟨rfl, rfl⟩; rw [HTM.out])
  refine HG3.out.mono ?_
  intro e w3 hr
  obtain ⟨gs, ks, g, kl, p, r, gt, kt, rfl, hn, hot, hb3⟩ := hr.n
  have H3 := Lib.hid (H2.out.call hb3)
  have hz3 := hb3.size
  have HN3 := Lib.hid hn
  have HO3 := Lib.hid hot
  clear hb3 hr hn hot c2_0 c2_1 c2_2
  have HC3 : Hid (False → x.trips.length ≤ kt) := Lib.hid (fun h => h.elim)
  have hlt2 := H2.out.lt
  clear hb
  go_upto_region 4 with fail
  obtain ⟨W4, hW4⟩ : ∃ W4, W4 = (w3.alloc (.cells #[.slice (some ⟨gs, 0, none⟩) x.net.stops.length ks, .slice (some ⟨g, 0, none⟩) x.net.lines.length kl, .slice (some ⟨gt, 0, none⟩) x.trips.length kt] 49)) := ⟨_, rfl⟩
  rw [← hW4]
  have HW4 : Hid (RpW False w W4 x (some ⟨b, o, none⟩) ca (some ⟨bl, ol, none⟩) cl (some ⟨bt, ot, none⟩) ct w3.heap.size w2.heap.size x gs ks g kl gt kt p r) := Lib.hid (by
    have hq := HN3.out.offEnd
    rw [hW4]
    exact ⟨H3.out.alloc _, HN3.out.alloc _, by go_simp, by go_simp, by go_simp, fun j => by go_simp, by simp, hq, by omega, hlt2, HC3.out⟩)
  clear hW4
  obtain ⟨W2, hW2⟩ : ∃ W2, W2 = w2 := ⟨_, rfl⟩
  rw [← hW2] at HW4
  clear hW2
  go_wp2_with fail
  go_loopw [14, 15] (fun a c wr => ∃ (k : Nat) (s' : Int) (y : TTD) (gs ks g kl gt kt : Nat) (p r : Nat → Nat), a = .int .i64 (k : Int) ∧ c = .int .i64 s' ∧ y.trips.length = x.trips.length + k ∧ ttB y = true ∧ y.net = x.net ∧ 0 ≤ s' ∧ s' ≤ 9223372036854775807 ∧ (s ≤ t ↔ s' ≤ t) ∧ rpS (14 - k) y l s' t h (k : Int) = rpS 14 x l s t h 0 ∧ RpW False w wr x (some ⟨b, o, none⟩) ca (some ⟨bl, ol, none⟩) cl (some ⟨bt, ot, none⟩) ct w3.heap.size W2.heap.size y gs ks g kl gt kt p r) (fun a _ _ => 14 - (intOf a).toNat)
  case atStart => exact ⟨0, s, x, gs, ks, g, kl, gt, kt, p, r, rfl, rfl, rfl, HBX.out, rfl, hst.1, by omega, Iff.rfl, rfl, HW4.out⟩
  case round =>
    obtain ⟨k, s', y, gs, ks, g, kl, gt, kt, p, r, rfl, rfl, hlen, hyt, hynet, hs0, hs9, hiff, hrp, hw⟩ := hrel
    have HIFF := Lib.hid hiff
    clear hiff
    have HW := Lib.hid hw
    have hy12 := ttB_trips hyt
    obtain ⟨f, hf⟩ : ∃ f, 14 - k = f + 1 := ⟨13 - k, by omega⟩
    rw [hf] at hrp
    have HRP := Lib.hid hrp
    have HYT := Lib.hid hyt
    have HYN := Lib.hid hynet
    have HLEN := Lib.hid hlen
    have HFk := Lib.hid hf
    have hkb : k ≤ 12 := by omega
    have hbw := hw.lt
    have HYX : Hid (NetX y.net) := Lib.hid (netX_of (ttB_net hyt))
    have HFY : Hid (FitsT y) := Lib.hid ⟨by rw [hynet]; exact hx.net, by omega⟩
    clear hrp hyt hynet hlen hf hw
    by_cases hst' : s' ≤ t
    · obtain ⟨Y, hY⟩ : ∃ Y, Y = adX y ⟨frI y.trips, l, s'⟩ := ⟨_, rfl⟩
      have HYY := Lib.hid hY
      have hbd := frI_bd y.trips
      have hYn : Hid (Y.net = x.net) := Lib.hid (by rw [hY]; exact HYN.out)
      have hYl : Hid (Y.trips.length = y.trips.length + 1) := Lib.hid (by rw [hY]; exact adX_len y _)
      have HYF : Hid (FitsT Y) := Lib.hid (by rw [hY]; exact withTr_fits HFY.out (by rw [inL_len]; omega))
      have hS0 : SB wr w3.heap.size 3 wr := SB.start HW.out.has
      have HHs : Hid (∀ w', SB wr w3.heap.size 3 w' → TtN w' W2.heap.size y gs g gt p r) := Lib.hid (fun w' hs => HW.out.held hs)
      have b0 := HW.out.c0
      have b1 := HW.out.c1
      have b2 := HW.out.c2
      have HBF := Lib.hid HW.out.fr
      have hyl : y.trips.length ≤ 1048576 := by omega
      have hdt : decide (s' ≤ t) = true := decide_eq_true hst'
      have hds : decide (s ≤ t) = true := decide_eq_true (HIFF.out.mpr hst')
      clear hY
      go_upto_region 7 with fail
      go_cut [] (fun wx => ∃ (gs6 ks6 g6 kl6 gt6 kt6 : Nat) (p6 r6 : Nat → Nat), RpW False w wx x (some ⟨b, o, none⟩) ca (some ⟨bl, ol, none⟩) cl (some ⟨bt, ot, none⟩) ct w3.heap.size W2.heap.size Y gs6 ks6 g6 kl6 gt6 kt6 p6 r6)
      case first =>
        refine wp_region_held_drew (S := fun w' => SB wr w3.heap.size 3 w') (by kernel_rfl) (SB.drew hS0) (fun hHeld => ?_)
        refine wpAnyH_take (i := 3) (v := ?_) rfl (by kernel_rfl) (by kernel_rfl) (by kernel_rfl) (fun _ _ _ h => h) (Or.inl ⟨by rfl, ?_⟩) hHeld ?_
        rotate_left 1
        · intro w hSw; (try dsimp only at hSw); first | (go_simp; done) | (go_simp; with_reducible rfl) | (go_simp; rfl)
        try simp only [Act.put, List.getElem_toArray, List.getElem_cons_succ, List.getElem_cons_zero, List.setIfInBounds_toArray, List.set_cons_zero, List.set_cons_succ]
        refine wpAnyH_take (i := 4) (v := ?_) rfl (by kernel_rfl) (by kernel_rfl) (by kernel_rfl) (fun _ _ _ h => h) (Or.inl ⟨by rfl, ?_⟩) hHeld ?_
        rotate_left 1
        · intro w hSw; (try dsimp only at hSw); first | (go_simp; done) | (go_simp; with_reducible rfl) | (go_simp; rfl)
        try simp only [Act.put, List.getElem_toArray, List.getElem_cons_succ, List.getElem_cons_zero, List.setIfInBounds_toArray, List.set_cons_zero, List.set_cons_succ]
        refine wpAnyH_ready (rs := [0, 1]) (by kernel_rfl) (by simp) ?_
        refine AllReadyH.cons rfl (fun K hK => ?_) (AllReadyH.cons rfl (fun K hK => ?_) (AllReadyH.nil))
        · go_simp
          refine hK.out _ _ ?_ (fun hHeld => ?_)
          · repeat' first | assumption | (refine SB.drew ?_) | (refine SB.alloc ?_ _) | (refine SB.set ?_ _ _)
          clear hK K
          try simp only [Act.put, List.getElem_toArray, List.getElem_cons_succ, List.getElem_cons_zero, List.setIfInBounds_toArray, List.set_cons_zero, List.set_cons_succ]
          refine wpAnyH_ready (rs := [1]) (by kernel_rfl) (by simp) ?_
          refine AllReadyH.cons rfl (fun K hK => ?_) (AllReadyH.nil)
          go_simp
          refine hK.out _ _ ?_ (fun hHeld => ?_)
          · repeat' first | assumption | (refine SB.drew ?_) | (refine SB.alloc ?_ _) | (refine SB.set ?_ _ _)
          clear hK K
          try simp only [Act.put, List.getElem_toArray, List.getElem_cons_succ, List.getElem_cons_zero, List.setIfInBounds_toArray, List.set_cons_zero, List.set_cons_succ]
          refine wpAnyH_ready (rs := [2]) (by kernel_rfl) (by simp) ?_
          refine AllReadyH.cons rfl (fun K hK => ?_) (AllReadyH.nil)
          go_simp
          refine (freeId_any y (some ⟨gs, 0, none⟩) (some ⟨g, 0, none⟩) (some ⟨gt, 0, none⟩) ks kl kt _ (HHs.out _ hHeld).stopsIn (HHs.out _ hHeld).linesIn (HHs.out _ hHeld).tripsIn hyl HYT.out).mono ?_
          rintro e w5 ⟨rfl, hb5⟩
          have hS5 := SB.call hHeld hb5
          have d0 : w5.cell? ⟨w3.heap.size, 0, none⟩ = some (.slice (some ⟨gs, 0, none⟩) y.net.stops.length ks) := (hb5.cell (p := ⟨w3.heap.size, 0, none⟩) (SB.lt hHeld)).trans b0
          have d1 : w5.cell? ⟨w3.heap.size, 1, none⟩ = some (.slice (some ⟨g, 0, none⟩) y.net.lines.length kl) := (hb5.cell (p := ⟨w3.heap.size, 1, none⟩) (SB.lt hHeld)).trans b1
          have d2 : w5.cell? ⟨w3.heap.size, 2, none⟩ = some (.slice (some ⟨gt, 0, none⟩) y.trips.length kt) := (hb5.cell (p := ⟨w3.heap.size, 2, none⟩) (SB.lt hHeld)).trans b2
          refine hK.out _ _ ?_ (fun hHeld => ?_)
          · repeat' first | assumption | (refine SB.drew ?_) | (refine SB.alloc ?_ _) | (refine SB.set ?_ _ _)
          clear hK K
          try simp only [Act.put, List.getElem_toArray, List.getElem_cons_succ, List.getElem_cons_zero, List.setIfInBounds_toArray, List.set_cons_zero, List.set_cons_succ]
          refine wpAnyH_take (i := 5) (v := ?_) rfl (by kernel_rfl) (by kernel_rfl) (by kernel_rfl) (fun _ _ _ h => h) (Or.inl ⟨by rfl, ?_⟩) hHeld ?_
          rotate_left 1
          · intro w hSw; (try dsimp only at hSw); first | (go_simp; done) | (go_simp; with_reducible rfl) | (go_simp; rfl)
          try simp only [Act.put, List.getElem_toArray, List.getElem_cons_succ, List.getElem_cons_zero, List.setIfInBounds_toArray, List.set_cons_zero, List.set_cons_succ]
          refine wpAnyH_ready (rs := [6]) (by kernel_rfl) (by simp) ?_
          refine AllReadyH.cons rfl (fun K hK => ?_) (AllReadyH.nil)
          go_simp
          refine (withTrip_any y ⟨frI y.trips, l, s'⟩ gs 0 ks g 0 kl gt 0 kt _ (HHs.out _ hHeld).stopsIn (HHs.out _ hHeld).linesIn (HHs.out _ hHeld).tripsIn HFY.out HYX.out).mono ?_
          rintro e w6 ⟨gs6, ks6, g6, kl6, p6, r6, gt6, kt6, rfl, hn6, hb6⟩
          have hS6 := SB.call hHeld hb6
          obtain ⟨q0, qf0⟩ := hS6.has.get (j := 0) (by omega)
          obtain ⟨q1, qf1⟩ := hS6.has.get (j := 1) (by omega)
          obtain ⟨q2, qf2⟩ := hS6.has.get (j := 2) (by omega)
          refine hK.out _ _ ?_ (fun hHeld => ?_)
          · repeat' first | assumption | (refine SB.drew ?_) | (refine SB.alloc ?_ _) | (refine SB.set ?_ _ _)
          clear hK K
          try simp only [Act.put, List.getElem_toArray, List.getElem_cons_succ, List.getElem_cons_zero, List.setIfInBounds_toArray, List.set_cons_zero, List.set_cons_succ]
          refine wpAnyH_ready (rs := [7]) (by kernel_rfl) (by simp) ?_
          refine AllReadyH.cons rfl (fun K hK => ?_) (AllReadyH.nil)
          go_simp
          refine hK.out _ _ ?_ (fun hHeld => ?_)
          · repeat' first | assumption | (refine SB.drew ?_) | (refine SB.alloc ?_ _) | (refine SB.set ?_ _ _)
          clear hK K
          try simp only [Act.put, List.getElem_toArray, List.getElem_cons_succ, List.getElem_cons_zero, List.setIfInBounds_toArray, List.set_cons_zero, List.set_cons_succ]
          refine wpAnyH_done (by kernel_rfl) ?_ _
          have hst6 := RpW.stored (y' := Y) (gs6 := gs6) (ks6 := ks6) (g6 := g6) (kl6 := kl6) (gt6 := gt6) (kt6 := kt6) HW.out hS6 (by rw [HYY.out]; exact hn6) hS5.bel.size (fun h => h.elim)
          rw [HYY.out] at hst6
          have HS6 := Lib.hid hst6
          clear hst6 hn6 hb6 hb5 hS5 hS6 q0 q1 q2 qf0 qf1 qf2 d0 d1 d2 hHeld
          go_wp2_with fail
          go_meet
          rw [HYY.out]
          exact ⟨gs6, ks6, g6, kl6, gt6, kt6, p6, r6, HS6.out⟩
        · go_simp
          refine hK.out _ _ ?_ (fun hHeld => ?_)
          · repeat' first | assumption | (refine SB.drew ?_) | (refine SB.alloc ?_ _) | (refine SB.set ?_ _ _)
          clear hK K
          try simp only [Act.put, List.getElem_toArray, List.getElem_cons_succ, List.getElem_cons_zero, List.setIfInBounds_toArray, List.set_cons_zero, List.set_cons_succ]
          refine wpAnyH_ready (rs := [0, 2]) (by kernel_rfl) (by simp) ?_
          refine AllReadyH.cons rfl (fun K hK => ?_) (AllReadyH.cons rfl (fun K hK => ?_) (AllReadyH.nil))
          · go_simp
            refine hK.out _ _ ?_ (fun hHeld => ?_)
            · repeat' first | assumption | (refine SB.drew ?_) | (refine SB.alloc ?_ _) | (refine SB.set ?_ _ _)
            clear hK K
            try simp only [Act.put, List.getElem_toArray, List.getElem_cons_succ, List.getElem_cons_zero, List.setIfInBounds_toArray, List.set_cons_zero, List.set_cons_succ]
            refine wpAnyH_ready (rs := [2]) (by kernel_rfl) (by simp) ?_
            refine AllReadyH.cons rfl (fun K hK => ?_) (AllReadyH.nil)
            go_simp
            refine (freeId_any y (some ⟨gs, 0, none⟩) (some ⟨g, 0, none⟩) (some ⟨gt, 0, none⟩) ks kl kt _ (HHs.out _ hHeld).stopsIn (HHs.out _ hHeld).linesIn (HHs.out _ hHeld).tripsIn hyl HYT.out).mono ?_
            rintro e w5 ⟨rfl, hb5⟩
            have hS5 := SB.call hHeld hb5
            have d0 : w5.cell? ⟨w3.heap.size, 0, none⟩ = some (.slice (some ⟨gs, 0, none⟩) y.net.stops.length ks) := (hb5.cell (p := ⟨w3.heap.size, 0, none⟩) (SB.lt hHeld)).trans b0
            have d1 : w5.cell? ⟨w3.heap.size, 1, none⟩ = some (.slice (some ⟨g, 0, none⟩) y.net.lines.length kl) := (hb5.cell (p := ⟨w3.heap.size, 1, none⟩) (SB.lt hHeld)).trans b1
            have d2 : w5.cell? ⟨w3.heap.size, 2, none⟩ = some (.slice (some ⟨gt, 0, none⟩) y.trips.length kt) := (hb5.cell (p := ⟨w3.heap.size, 2, none⟩) (SB.lt hHeld)).trans b2
            refine hK.out _ _ ?_ (fun hHeld => ?_)
            · repeat' first | assumption | (refine SB.drew ?_) | (refine SB.alloc ?_ _) | (refine SB.set ?_ _ _)
            clear hK K
            try simp only [Act.put, List.getElem_toArray, List.getElem_cons_succ, List.getElem_cons_zero, List.setIfInBounds_toArray, List.set_cons_zero, List.set_cons_succ]
            refine wpAnyH_take (i := 5) (v := ?_) rfl (by kernel_rfl) (by kernel_rfl) (by kernel_rfl) (fun _ _ _ h => h) (Or.inl ⟨by rfl, ?_⟩) hHeld ?_
            rotate_left 1
            · intro w hSw; (try dsimp only at hSw); first | (go_simp; done) | (go_simp; with_reducible rfl) | (go_simp; rfl)
            try simp only [Act.put, List.getElem_toArray, List.getElem_cons_succ, List.getElem_cons_zero, List.setIfInBounds_toArray, List.set_cons_zero, List.set_cons_succ]
            refine wpAnyH_ready (rs := [6]) (by kernel_rfl) (by simp) ?_
            refine AllReadyH.cons rfl (fun K hK => ?_) (AllReadyH.nil)
            go_simp
            refine (withTrip_any y ⟨frI y.trips, l, s'⟩ gs 0 ks g 0 kl gt 0 kt _ (HHs.out _ hHeld).stopsIn (HHs.out _ hHeld).linesIn (HHs.out _ hHeld).tripsIn HFY.out HYX.out).mono ?_
            rintro e w6 ⟨gs6, ks6, g6, kl6, p6, r6, gt6, kt6, rfl, hn6, hb6⟩
            have hS6 := SB.call hHeld hb6
            obtain ⟨q0, qf0⟩ := hS6.has.get (j := 0) (by omega)
            obtain ⟨q1, qf1⟩ := hS6.has.get (j := 1) (by omega)
            obtain ⟨q2, qf2⟩ := hS6.has.get (j := 2) (by omega)
            refine hK.out _ _ ?_ (fun hHeld => ?_)
            · repeat' first | assumption | (refine SB.drew ?_) | (refine SB.alloc ?_ _) | (refine SB.set ?_ _ _)
            clear hK K
            try simp only [Act.put, List.getElem_toArray, List.getElem_cons_succ, List.getElem_cons_zero, List.setIfInBounds_toArray, List.set_cons_zero, List.set_cons_succ]
            refine wpAnyH_ready (rs := [7]) (by kernel_rfl) (by simp) ?_
            refine AllReadyH.cons rfl (fun K hK => ?_) (AllReadyH.nil)
            go_simp
            refine hK.out _ _ ?_ (fun hHeld => ?_)
            · repeat' first | assumption | (refine SB.drew ?_) | (refine SB.alloc ?_ _) | (refine SB.set ?_ _ _)
            clear hK K
            try simp only [Act.put, List.getElem_toArray, List.getElem_cons_succ, List.getElem_cons_zero, List.setIfInBounds_toArray, List.set_cons_zero, List.set_cons_succ]
            refine wpAnyH_done (by kernel_rfl) ?_ _
            have hst6 := RpW.stored (y' := Y) (gs6 := gs6) (ks6 := ks6) (g6 := g6) (kl6 := kl6) (gt6 := gt6) (kt6 := kt6) HW.out hS6 (by rw [HYY.out]; exact hn6) hS5.bel.size (fun h => h.elim)
            rw [HYY.out] at hst6
            have HS6 := Lib.hid hst6
            clear hst6 hn6 hb6 hb5 hS5 hS6 q0 q1 q2 qf0 qf1 qf2 d0 d1 d2 hHeld
            go_wp2_with fail
            go_meet
            rw [HYY.out]
            exact ⟨gs6, ks6, g6, kl6, gt6, kt6, p6, r6, HS6.out⟩
          · go_simp
            refine (freeId_any y (some ⟨gs, 0, none⟩) (some ⟨g, 0, none⟩) (some ⟨gt, 0, none⟩) ks kl kt _ (HHs.out _ hHeld).stopsIn (HHs.out _ hHeld).linesIn (HHs.out _ hHeld).tripsIn hyl HYT.out).mono ?_
            rintro e w5 ⟨rfl, hb5⟩
            have hS5 := SB.call hHeld hb5
            have d0 : w5.cell? ⟨w3.heap.size, 0, none⟩ = some (.slice (some ⟨gs, 0, none⟩) y.net.stops.length ks) := (hb5.cell (p := ⟨w3.heap.size, 0, none⟩) (SB.lt hHeld)).trans b0
            have d1 : w5.cell? ⟨w3.heap.size, 1, none⟩ = some (.slice (some ⟨g, 0, none⟩) y.net.lines.length kl) := (hb5.cell (p := ⟨w3.heap.size, 1, none⟩) (SB.lt hHeld)).trans b1
            have d2 : w5.cell? ⟨w3.heap.size, 2, none⟩ = some (.slice (some ⟨gt, 0, none⟩) y.trips.length kt) := (hb5.cell (p := ⟨w3.heap.size, 2, none⟩) (SB.lt hHeld)).trans b2
            refine hK.out _ _ ?_ (fun hHeld => ?_)
            · repeat' first | assumption | (refine SB.drew ?_) | (refine SB.alloc ?_ _) | (refine SB.set ?_ _ _)
            clear hK K
            try simp only [Act.put, List.getElem_toArray, List.getElem_cons_succ, List.getElem_cons_zero, List.setIfInBounds_toArray, List.set_cons_zero, List.set_cons_succ]
            refine wpAnyH_take (i := 5) (v := ?_) rfl (by kernel_rfl) (by kernel_rfl) (by kernel_rfl) (fun _ _ _ h => h) (Or.inl ⟨by rfl, ?_⟩) hHeld ?_
            rotate_left 1
            · intro w hSw; (try dsimp only at hSw); first | (go_simp; done) | (go_simp; with_reducible rfl) | (go_simp; rfl)
            try simp only [Act.put, List.getElem_toArray, List.getElem_cons_succ, List.getElem_cons_zero, List.setIfInBounds_toArray, List.set_cons_zero, List.set_cons_succ]
            refine wpAnyH_ready (rs := [0]) (by kernel_rfl) (by simp) ?_
            refine AllReadyH.cons rfl (fun K hK => ?_) (AllReadyH.nil)
            go_simp
            refine hK.out _ _ ?_ (fun hHeld => ?_)
            · repeat' first | assumption | (refine SB.drew ?_) | (refine SB.alloc ?_ _) | (refine SB.set ?_ _ _)
            clear hK K
            try simp only [Act.put, List.getElem_toArray, List.getElem_cons_succ, List.getElem_cons_zero, List.setIfInBounds_toArray, List.set_cons_zero, List.set_cons_succ]
            refine wpAnyH_ready (rs := [6]) (by kernel_rfl) (by simp) ?_
            refine AllReadyH.cons rfl (fun K hK => ?_) (AllReadyH.nil)
            go_simp
            refine (withTrip_any y ⟨frI y.trips, l, s'⟩ gs 0 ks g 0 kl gt 0 kt _ (HHs.out _ hHeld).stopsIn (HHs.out _ hHeld).linesIn (HHs.out _ hHeld).tripsIn HFY.out HYX.out).mono ?_
            rintro e w6 ⟨gs6, ks6, g6, kl6, p6, r6, gt6, kt6, rfl, hn6, hb6⟩
            have hS6 := SB.call hHeld hb6
            obtain ⟨q0, qf0⟩ := hS6.has.get (j := 0) (by omega)
            obtain ⟨q1, qf1⟩ := hS6.has.get (j := 1) (by omega)
            obtain ⟨q2, qf2⟩ := hS6.has.get (j := 2) (by omega)
            refine hK.out _ _ ?_ (fun hHeld => ?_)
            · repeat' first | assumption | (refine SB.drew ?_) | (refine SB.alloc ?_ _) | (refine SB.set ?_ _ _)
            clear hK K
            try simp only [Act.put, List.getElem_toArray, List.getElem_cons_succ, List.getElem_cons_zero, List.setIfInBounds_toArray, List.set_cons_zero, List.set_cons_succ]
            refine wpAnyH_ready (rs := [7]) (by kernel_rfl) (by simp) ?_
            refine AllReadyH.cons rfl (fun K hK => ?_) (AllReadyH.nil)
            go_simp
            refine hK.out _ _ ?_ (fun hHeld => ?_)
            · repeat' first | assumption | (refine SB.drew ?_) | (refine SB.alloc ?_ _) | (refine SB.set ?_ _ _)
            clear hK K
            try simp only [Act.put, List.getElem_toArray, List.getElem_cons_succ, List.getElem_cons_zero, List.setIfInBounds_toArray, List.set_cons_zero, List.set_cons_succ]
            refine wpAnyH_done (by kernel_rfl) ?_ _
            have hst6 := RpW.stored (y' := Y) (gs6 := gs6) (ks6 := ks6) (g6 := g6) (kl6 := kl6) (gt6 := gt6) (kt6 := kt6) HW.out hS6 (by rw [HYY.out]; exact hn6) hS5.bel.size (fun h => h.elim)
            rw [HYY.out] at hst6
            have HS6 := Lib.hid hst6
            clear hst6 hn6 hb6 hb5 hS5 hS6 q0 q1 q2 qf0 qf1 qf2 d0 d1 d2 hHeld
            go_wp2_with fail
            go_meet
            rw [HYY.out]
            exact ⟨gs6, ks6, g6, kl6, gt6, kt6, p6, r6, HS6.out⟩
      case rest =>
        obtain ⟨gs6, ks6, g6, kl6, gt6, kt6, p6, r6, hw6⟩ := hcut
        have HW6 := Lib.hid hw6
        have k0 := hw6.c0
        have k1 := hw6.c1
        have k2 := hw6.c2
        have hkw : IntKind.i64.wrap ((k : Int) + 1) = (k : Int) + 1 := IntWalk.i64_in _ (by omega)
        have HYB : Hid (netB Y.net = true) := Lib.hid (by rw [hYn.out]; exact ttB_net HBX.out)
        have HG7 := Lib.hid (areTrips_any Y (some ⟨gs6, 0, none⟩) (some ⟨g6, 0, none⟩) (some ⟨gt6, 0, none⟩) ks6 kl6 kt6 wc hw6.tt.stopsIn hw6.tt.linesIn hw6.tt.tripsIn HYF.out HYB.out)
        have hts : IntKind.i64.wrap (t - s') = t - s' := IntWalk.i64_in _ (by omega)
        clear hS0 b0 b1 b2 hw6 hdt hds
        go_wp2_with fail
        refine HG7.out.mono ?_
        rintro e w7 ⟨rfl, hb7⟩
        have HW7 := Lib.hid (HW6.out.call hb7)
        clear hb7 k0 k1 k2
        cases hyy : ttB Y
        · have HR : Hid (rpR x l s t h = (zeroT, 0, false)) := Lib.hid (by rw [HRY.out, ← HRP.out]; exact rpS_bad hst' (by rw [HYY.out] at hyy; exact hyy))
          rw [show tripsB Y = false by have h := hyy; rw [ttB_split, HYB.out] at h; simpa using h]
          clear hyy
          obtain ⟨t0, t1, t2⟩ := HW7.out.tw.res
          have f0 := HW7.out.tw.free 0
          have f1 := HW7.out.tw.free 1
          have f2 := HW7.out.tw.free 2
          go_wp2_with fail
          refine bodyPost_ret (v := .tuple #[.agg #[.slice none 0 0, .slice none 0 0, .slice none 0 0], .int .i64 0, .bool false]) (by simp [results, Try.results67, go_sem, t0, t1, t2]) rfl ?_
          refine retTtI_eq HR.out (retTtI_zero ?_)
          repeat' (refine Below.setCell ?_ (by simp) _)
          exact HW7.out.tw.bel
        · rw [show tripsB Y = true by have h := hyy; rw [ttB_split, HYB.out] at h; simpa using h]
          by_cases hbr : t - s' < h
          · have HRR : Hid (rpR x l s t h = (Y, (k : Int) + 1, true)) := Lib.hid (by rw [HRY.out, ← HRP.out, HYY.out]; exact rpS_last hst' (by rw [HYY.out] at hyy; exact hyy) hbr)
            have hdb : decide (t - s' < h) = true := decide_eq_true hbr
            clear hyy
            obtain ⟨t0, t1, t2⟩ := HW7.out.tw.res
            have f0 := HW7.out.tw.free 0
            have f1 := HW7.out.tw.free 1
            have f2 := HW7.out.tw.free 2
            have k0 := HW7.out.c0
            have k1 := HW7.out.c1
            have k2 := HW7.out.c2
            have hl0 := HW7.out.l0
            go_wp2_with fail
            refine bodyPost_ret (v := .tuple #[.agg #[.slice (some ⟨gs6, 0, none⟩) Y.net.stops.length ks6, .slice (some ⟨g6, 0, none⟩) Y.net.lines.length kl6, .slice (some ⟨gt6, 0, none⟩) Y.trips.length kt6], .int .i64 ((k : Int) + 1), .bool true]) (by simp [results, Try.results67, go_sem, t0, t1, t2]) rfl ?_
            refine retTtI_eq HRR.out ⟨some ⟨gs6, 0, none⟩, ks6, some ⟨g6, 0, none⟩, kl6, some ⟨gt6, 0, none⟩, kt6, rfl, ?_, ?_⟩
            · refine (TtN.lower (lo := W2.heap.size) ?_ (by omega)).tto (gs := gs6) (g := g6) (gt := gt6) (p := p6) (r := r6)
              repeat' (refine TtN.set ?_ (by show w.heap.size + 1 < W2.heap.size; omega) _)
              exact HW7.out.tt
            · repeat' (refine Below.setCell ?_ (by simp) _)
              exact HW7.out.tw.bel
          · have HRG : Hid (rpS f Y l (s' + h) t h ((k : Int) + 1) = rpS 14 x l s t h 0) := Lib.hid (by rw [← HRP.out, HYY.out]; exact (rpS_go hst' (by rw [HYY.out] at hyy; exact hyy) hbr).symm)
            have hdb : decide (t - s' < h) = false := decide_eq_false hbr
            have hsw : IntKind.i64.wrap (s' + h) = s' + h := IntWalk.i64_in _ (by omega)
            have HYY2 := Lib.hid hyy
            have HI2 : Hid (s ≤ t ↔ s' + h ≤ t) := Lib.hid ⟨fun _ => by omega, fun _ => HIFF.out.mpr hst'⟩
            clear hyy
            go_wp2_with fail
            go_roundw
            case rel => exact ⟨k + 1, s' + h, Y, gs6, ks6, g6, kl6, gt6, kt6, p6, r6, by push_cast; rfl, rfl, by rw [hYl.out, HLEN.out]; omega, HYY2.out, hYn.out, by omega, by omega, HI2.out, by rw [show 14 - (k + 1) = f by have := HFk.out; omega]; push_cast; exact HRG.out, HW7.out⟩
            case measure => simp [intOf]; omega
    · have HRR : Hid (rpR x l s t h = (y, (k : Int), true)) := Lib.hid (by rw [HRY.out, ← HRP.out]; exact rpS_end hst')
      have hdt : decide (s' ≤ t) = false := decide_eq_false hst'
      have hds : decide (s ≤ t) = false := decide_eq_false (fun h => hst' (HIFF.out.mp h))
      obtain ⟨t0, t1, t2⟩ := HW.out.tw.res
      have f0 := HW.out.tw.free 0
      have f1 := HW.out.tw.free 1
      have f2 := HW.out.tw.free 2
      have k0 := HW.out.c0
      have k1 := HW.out.c1
      have k2 := HW.out.c2
      have hl0 := HW.out.l0
      go_wp2_with fail
      refine bodyPost_ret (v := .tuple #[.agg #[.slice (some ⟨gs, 0, none⟩) y.net.stops.length ks, .slice (some ⟨g, 0, none⟩) y.net.lines.length kl, .slice (some ⟨gt, 0, none⟩) y.trips.length kt], .int .i64 (k : Int), .bool true]) (by simp [results, Try.results67, go_sem, t0, t1, t2]) rfl ?_
      refine retTtI_eq HRR.out ⟨some ⟨gs, 0, none⟩, ks, some ⟨g, 0, none⟩, kl, some ⟨gt, 0, none⟩, kt, rfl, ?_, ?_⟩
      · refine (TtN.lower (lo := W2.heap.size) ?_ (by omega)).tto (gs := gs) (g := g) (gt := gt) (p := p) (r := r)
        repeat' (refine TtN.set ?_ (by show w.heap.size + 1 < W2.heap.size; omega) _)
        exact HW.out.tt
      · repeat' (refine Below.setCell ?_ (by simp) _)
        exact HW.out.tw.bel
set_option maxRecDepth 100000 in
set_option maxHeartbeats 4000000 in
theorem specRepeat_go (x : TTD) (l s t h : Int) (b o ca bl ol cl bt ot ct : Nat) (w : World) (hA : StrsIn w (Zone.below w.heap.size) (some ⟨b, o, none⟩) x.net.stops) (hL : LinesIn w (Zone.below w.heap.size) (some ⟨bl, ol, none⟩) x.net.lines) (hT : I3sIn w (Zone.below w.heap.size) (some ⟨bt, ot, none⟩) x.trips) (hx : FitsT x) (hct : x.trips.length ≤ ct) (hb : ttB x = true) (hi : inB l 0 (x.net.lines.length - 1) = true) (htm : tmB s = true) (h1 : 1 ≤ h) (ht9 : t ≤ 9223372036854775807) (hh9 : h ≤ 9223372036854775807) :
    Calls Try.prog 66 #[.agg #[.slice (some ⟨b, o, none⟩) x.net.stops.length ca, .slice (some ⟨bl, ol, none⟩) x.net.lines.length cl, .slice (some ⟨bt, ot, none⟩) x.trips.length ct], .int .i64 l, .int .i64 s, .int .i64 t, .int .i64 h] w (RetTtI (rpR x l s t h).1 (rpR x l s t h).2.1 (rpR x l s t h).2.2 w) := by
  have HRY := Lib.hid (rpR_yes (x := x) (l := l) (s := s) (t := t) (h := h) hb hi htm h1)
  have HX := Lib.hid (netX_of (ttB_net hb))
  have hst := tmB_iff.mp htm
  have hnl : x.net.lines.length ≤ 1048576 := hx.net.lines
  have hwl : IntKind.i64.wrap ((x.net.lines.length : Int) - 1) = (x.net.lines.length : Int) - 1 := IntWalk.i64_in _ (by omega)
  have HI := Lib.hid hi
  have HTM := Lib.hid htm
  have HBX := Lib.hid hb
  have hd : decide (h < 1) = false := decide_eq_false (by omega)
  clear hi htm
  obtain ⟨W0, hW0⟩ : ∃ W0, W0 = ((w.alloc (.cells #[.slice (some ⟨b, o, none⟩) x.net.stops.length ca, .slice (some ⟨bl, ol, none⟩) x.net.lines.length cl, .slice (some ⟨bt, ot, none⟩) x.trips.length ct] 49)).alloc (.cells #[.slice none 0 0, .slice none 0 0, .slice none 0 0] 49)) := ⟨_, rfl⟩
  have H0 : Hid (TW w W0 x (some ⟨b, o, none⟩) ca (some ⟨bl, ol, none⟩) cl (some ⟨bt, ot, none⟩) ct) := Lib.hid (by rw [hW0]; exact TW.start hA hL hT)
  have htl : x.trips.length ≤ 1048576 := hx.trips
  clear hA hL hT
  go_enter Try.func66, Try.ntmps66
  go_upto_region 1 with fail
  rw [← hW0]
  clear hW0
  obtain ⟨c0_0, c0_1, c0_2⟩ := H0.out.box.cells
  have HG1 := Lib.hid (l5Good_any x (some ⟨b, o, none⟩) (some ⟨bl, ol, none⟩) (some ⟨bt, ot, none⟩) ca cl ct W0 H0.out.box.stops H0.out.box.lines H0.out.box.trips hx)
  go_wp2_with fail
  refine HG1.out.mono ?_
  rintro e w1 ⟨rfl, hb1⟩
  rw [hb]
  have H1 := Lib.hid (H0.out.call hb1)
  have hz1 := hb1.size
  clear hb1 c0_0 c0_1 c0_2
  obtain ⟨c1_0, c1_1, c1_2⟩ := H1.out.box.cells
  have HG3 := Lib.hid (l5Own_any x b o ca bl ol cl bt ot ct w1 H1.out.box.stops H1.out.box.lines H1.out.box.trips hx HX.out)
  go_wp2_with (first | (go_at_call 69; refine (l1In_any _ _ _ _).mono ?_; rintro e w9 ⟨rfl, rfl⟩; rw [HI.out]) | (go_at_call 81; refine (l4Time_any _ _).mono ?_; rintro e w9 ⟨rfl, rfl⟩; rw [HTM.out]))
  refine HG3.out.mono ?_
  intro e w3 hr
  obtain ⟨gs, ks, g, kl, p, r, gt, kt, rfl, hn, hot, hb3⟩ := hr.n
  have H3 := Lib.hid (H1.out.call hb3)
  have hz3 := hb3.size
  have HN3 := Lib.hid hn
  have HO3 := Lib.hid hot
  clear hb3 hr hn hot c1_0 c1_1 c1_2
  have HC3 : Hid (True → x.trips.length ≤ kt) := Lib.hid (fun _ => (OwnT.row HO3.out).nc)
  have hlt2 := H1.out.lt
  clear hb
  go_upto_region 4 with fail
  obtain ⟨W4, hW4⟩ : ∃ W4, W4 = (w3.alloc (.cells #[.slice (some ⟨gs, 0, none⟩) x.net.stops.length ks, .slice (some ⟨g, 0, none⟩) x.net.lines.length kl, .slice (some ⟨gt, 0, none⟩) x.trips.length kt] 49)) := ⟨_, rfl⟩
  rw [← hW4]
  have HW4 : Hid (RpW True w W4 x (some ⟨b, o, none⟩) ca (some ⟨bl, ol, none⟩) cl (some ⟨bt, ot, none⟩) ct w3.heap.size w1.heap.size x gs ks g kl gt kt p r) := Lib.hid (by
    have hq := HN3.out.offEnd
    rw [hW4]
    exact ⟨H3.out.alloc _, HN3.out.alloc _, by go_simp, by go_simp, by go_simp, fun j => by go_simp, by simp, hq, by omega, hlt2, HC3.out⟩)
  clear hW4
  obtain ⟨W2, hW2⟩ : ∃ W2, W2 = w1 := ⟨_, rfl⟩
  rw [← hW2] at HW4
  clear hW2
  go_wp2_with fail
  go_loopw [14, 15] (fun a c wr => ∃ (k : Nat) (s' : Int) (y : TTD) (gs ks g kl gt kt : Nat) (p r : Nat → Nat), a = .int .i64 (k : Int) ∧ c = .int .i64 s' ∧ y.trips.length = x.trips.length + k ∧ ttB y = true ∧ y.net = x.net ∧ 0 ≤ s' ∧ s' ≤ 9223372036854775807 ∧ (s ≤ t ↔ s' ≤ t) ∧ rpS (14 - k) y l s' t h (k : Int) = rpS 14 x l s t h 0 ∧ RpW True w wr x (some ⟨b, o, none⟩) ca (some ⟨bl, ol, none⟩) cl (some ⟨bt, ot, none⟩) ct w3.heap.size W2.heap.size y gs ks g kl gt kt p r) (fun a _ _ => 14 - (intOf a).toNat)
  case atStart => exact ⟨0, s, x, gs, ks, g, kl, gt, kt, p, r, rfl, rfl, rfl, HBX.out, rfl, hst.1, by omega, Iff.rfl, rfl, HW4.out⟩
  case round =>
    obtain ⟨k, s', y, gs, ks, g, kl, gt, kt, p, r, rfl, rfl, hlen, hyt, hynet, hs0, hs9, hiff, hrp, hw⟩ := hrel
    have HIFF := Lib.hid hiff
    clear hiff
    have HW := Lib.hid hw
    have hy12 := ttB_trips hyt
    obtain ⟨f, hf⟩ : ∃ f, 14 - k = f + 1 := ⟨13 - k, by omega⟩
    rw [hf] at hrp
    have HRP := Lib.hid hrp
    have HYT := Lib.hid hyt
    have HYN := Lib.hid hynet
    have HLEN := Lib.hid hlen
    have HFk := Lib.hid hf
    have hkb : k ≤ 12 := by omega
    have hbw := hw.lt
    have HYX : Hid (NetX y.net) := Lib.hid (netX_of (ttB_net hyt))
    have HFY : Hid (FitsT y) := Lib.hid ⟨by rw [hynet]; exact hx.net, by omega⟩
    clear hrp hyt hynet hlen hf hw
    by_cases hst' : s' ≤ t
    · obtain ⟨Y, hY⟩ : ∃ Y, Y = adX y ⟨frI y.trips, l, s'⟩ := ⟨_, rfl⟩
      have HYY := Lib.hid hY
      have hbd := frI_bd y.trips
      have hYn : Hid (Y.net = x.net) := Lib.hid (by rw [hY]; exact HYN.out)
      have hYl : Hid (Y.trips.length = y.trips.length + 1) := Lib.hid (by rw [hY]; exact adX_len y _)
      have HYF : Hid (FitsT Y) := Lib.hid (by rw [hY]; exact withTr_fits HFY.out (by rw [inL_len]; omega))
      have hS0 : SB wr w3.heap.size 3 wr := SB.start HW.out.has
      have HHs : Hid (∀ w', SB wr w3.heap.size 3 w' → TtN w' W2.heap.size y gs g gt p r) := Lib.hid (fun w' hs => HW.out.held hs)
      have b0 := HW.out.c0
      have b1 := HW.out.c1
      have b2 := HW.out.c2
      have HBF := Lib.hid HW.out.fr
      have hyl : y.trips.length ≤ 1048576 := by omega
      have hdt : decide (s' ≤ t) = true := decide_eq_true hst'
      have hds : decide (s ≤ t) = true := decide_eq_true (HIFF.out.mpr hst')
      clear hY
      go_upto_region 8 with fail
      go_cut [] (fun wx => ∃ (gs6 ks6 g6 kl6 gt6 kt6 : Nat) (p6 r6 : Nat → Nat), RpW True w wx x (some ⟨b, o, none⟩) ca (some ⟨bl, ol, none⟩) cl (some ⟨bt, ot, none⟩) ct w3.heap.size W2.heap.size Y gs6 ks6 g6 kl6 gt6 kt6 p6 r6)
      case first =>
        refine wp_region_held_drew (S := fun w' => SB wr w3.heap.size 3 w') (by kernel_rfl) (SB.drew hS0) (fun hHeld => ?_)
        refine wpAnyH_take (i := 3) (v := ?_) rfl (by kernel_rfl) (by kernel_rfl) (by kernel_rfl) (fun _ _ _ h => h) (Or.inl ⟨by rfl, ?_⟩) hHeld ?_
        rotate_left 1
        · intro w hSw; (try dsimp only at hSw); first | (go_simp; done) | (go_simp; with_reducible rfl) | (go_simp; rfl)
        try simp only [Act.put, List.getElem_toArray, List.getElem_cons_succ, List.getElem_cons_zero, List.setIfInBounds_toArray, List.set_cons_zero, List.set_cons_succ]
        refine wpAnyH_take (i := 4) (v := ?_) rfl (by kernel_rfl) (by kernel_rfl) (by kernel_rfl) (fun _ _ _ h => h) (Or.inl ⟨by rfl, ?_⟩) hHeld ?_
        rotate_left 1
        · intro w hSw; (try dsimp only at hSw); first | (go_simp; done) | (go_simp; with_reducible rfl) | (go_simp; rfl)
        try simp only [Act.put, List.getElem_toArray, List.getElem_cons_succ, List.getElem_cons_zero, List.setIfInBounds_toArray, List.set_cons_zero, List.set_cons_succ]
        refine wpAnyH_ready (rs := [0, 1]) (by kernel_rfl) (by simp) ?_
        refine AllReadyH.cons rfl (fun K hK => ?_) (AllReadyH.cons rfl (fun K hK => ?_) (AllReadyH.nil))
        · go_simp
          refine hK.out _ _ ?_ (fun hHeld => ?_)
          · repeat' first | assumption | (refine SB.drew ?_) | (refine SB.alloc ?_ _) | (refine SB.set ?_ _ _)
          clear hK K
          try simp only [Act.put, List.getElem_toArray, List.getElem_cons_succ, List.getElem_cons_zero, List.setIfInBounds_toArray, List.set_cons_zero, List.set_cons_succ]
          refine wpAnyH_ready (rs := [1]) (by kernel_rfl) (by simp) ?_
          refine AllReadyH.cons rfl (fun K hK => ?_) (AllReadyH.nil)
          go_simp
          refine hK.out _ _ ?_ (fun hHeld => ?_)
          · repeat' first | assumption | (refine SB.drew ?_) | (refine SB.alloc ?_ _) | (refine SB.set ?_ _ _)
          clear hK K
          try simp only [Act.put, List.getElem_toArray, List.getElem_cons_succ, List.getElem_cons_zero, List.setIfInBounds_toArray, List.set_cons_zero, List.set_cons_succ]
          refine wpAnyH_ready (rs := [2]) (by kernel_rfl) (by simp) ?_
          refine AllReadyH.cons rfl (fun K hK => ?_) (AllReadyH.nil)
          go_simp
          refine (l5Id_any y (some ⟨gs, 0, none⟩) (some ⟨g, 0, none⟩) (some ⟨gt, 0, none⟩) ks kl kt _ (HHs.out _ hHeld).stopsIn (HHs.out _ hHeld).linesIn (HHs.out _ hHeld).tripsIn hyl).mono ?_
          rintro e w5 ⟨rfl, hb5⟩
          have hS5 := SB.call hHeld hb5
          have d0 : w5.cell? ⟨w3.heap.size, 0, none⟩ = some (.slice (some ⟨gs, 0, none⟩) y.net.stops.length ks) := (hb5.cell (p := ⟨w3.heap.size, 0, none⟩) (SB.lt hHeld)).trans b0
          have d1 : w5.cell? ⟨w3.heap.size, 1, none⟩ = some (.slice (some ⟨g, 0, none⟩) y.net.lines.length kl) := (hb5.cell (p := ⟨w3.heap.size, 1, none⟩) (SB.lt hHeld)).trans b1
          have d2 : w5.cell? ⟨w3.heap.size, 2, none⟩ = some (.slice (some ⟨gt, 0, none⟩) y.trips.length kt) := (hb5.cell (p := ⟨w3.heap.size, 2, none⟩) (SB.lt hHeld)).trans b2
          refine hK.out _ _ ?_ (fun hHeld => ?_)
          · repeat' first | assumption | (refine SB.drew ?_) | (refine SB.alloc ?_ _) | (refine SB.set ?_ _ _)
          clear hK K
          try simp only [Act.put, List.getElem_toArray, List.getElem_cons_succ, List.getElem_cons_zero, List.setIfInBounds_toArray, List.set_cons_zero, List.set_cons_succ]
          refine wpAnyH_take (i := 5) (v := ?_) rfl (by kernel_rfl) (by kernel_rfl) (by kernel_rfl) (fun _ _ _ h => h) (Or.inl ⟨by rfl, ?_⟩) hHeld ?_
          rotate_left 1
          · intro w hSw; (try dsimp only at hSw); first | (go_simp; done) | (go_simp; with_reducible rfl) | (go_simp; rfl)
          try simp only [Act.put, List.getElem_toArray, List.getElem_cons_succ, List.getElem_cons_zero, List.setIfInBounds_toArray, List.set_cons_zero, List.set_cons_succ]
          refine wpAnyH_ready (rs := [6]) (by kernel_rfl) (by simp) ?_
          refine AllReadyH.cons rfl (fun K hK => ?_) (AllReadyH.nil)
          go_simp
          refine (l5Put_any y ⟨frI y.trips, l, s'⟩ gs 0 ks g 0 kl gt 0 kt _ (HHs.out _ hHeld).stopsIn (HHs.out _ hHeld).linesIn (HHs.out _ hHeld).tripsIn HFY.out HYX.out (HW.out.cap trivial)).mono ?_
          rintro e w6 ⟨gs6, ks6, g6, kl6, p6, r6, gt6, kt6, rfl, hcap6, hn6, hb6⟩
          have hS6 := SB.call hHeld hb6
          obtain ⟨q0, qf0⟩ := hS6.has.get (j := 0) (by omega)
          obtain ⟨q1, qf1⟩ := hS6.has.get (j := 1) (by omega)
          obtain ⟨q2, qf2⟩ := hS6.has.get (j := 2) (by omega)
          refine hK.out _ _ ?_ (fun hHeld => ?_)
          · repeat' first | assumption | (refine SB.drew ?_) | (refine SB.alloc ?_ _) | (refine SB.set ?_ _ _)
          clear hK K
          try simp only [Act.put, List.getElem_toArray, List.getElem_cons_succ, List.getElem_cons_zero, List.setIfInBounds_toArray, List.set_cons_zero, List.set_cons_succ]
          refine wpAnyH_ready (rs := [7]) (by kernel_rfl) (by simp) ?_
          refine AllReadyH.cons rfl (fun K hK => ?_) (AllReadyH.nil)
          go_simp
          refine hK.out _ _ ?_ (fun hHeld => ?_)
          · repeat' first | assumption | (refine SB.drew ?_) | (refine SB.alloc ?_ _) | (refine SB.set ?_ _ _)
          clear hK K
          try simp only [Act.put, List.getElem_toArray, List.getElem_cons_succ, List.getElem_cons_zero, List.setIfInBounds_toArray, List.set_cons_zero, List.set_cons_succ]
          refine wpAnyH_done (by kernel_rfl) ?_ _
          have hst6 := RpW.stored (y' := Y) (gs6 := gs6) (ks6 := ks6) (g6 := g6) (kl6 := kl6) (gt6 := gt6) (kt6 := kt6) HW.out hS6 (by rw [HYY.out]; exact hn6) hS5.bel.size (fun _ => by rw [HYY.out]; exact hcap6)
          rw [HYY.out] at hst6
          have HS6 := Lib.hid hst6
          clear hst6 hn6 hb6 hb5 hS5 hS6 q0 q1 q2 qf0 qf1 qf2 d0 d1 d2 hHeld
          go_wp2_with fail
          go_meet
          rw [HYY.out]
          exact ⟨gs6, ks6, g6, kl6, gt6, kt6, p6, r6, HS6.out⟩
        · go_simp
          refine hK.out _ _ ?_ (fun hHeld => ?_)
          · repeat' first | assumption | (refine SB.drew ?_) | (refine SB.alloc ?_ _) | (refine SB.set ?_ _ _)
          clear hK K
          try simp only [Act.put, List.getElem_toArray, List.getElem_cons_succ, List.getElem_cons_zero, List.setIfInBounds_toArray, List.set_cons_zero, List.set_cons_succ]
          refine wpAnyH_ready (rs := [0, 2]) (by kernel_rfl) (by simp) ?_
          refine AllReadyH.cons rfl (fun K hK => ?_) (AllReadyH.cons rfl (fun K hK => ?_) (AllReadyH.nil))
          · go_simp
            refine hK.out _ _ ?_ (fun hHeld => ?_)
            · repeat' first | assumption | (refine SB.drew ?_) | (refine SB.alloc ?_ _) | (refine SB.set ?_ _ _)
            clear hK K
            try simp only [Act.put, List.getElem_toArray, List.getElem_cons_succ, List.getElem_cons_zero, List.setIfInBounds_toArray, List.set_cons_zero, List.set_cons_succ]
            refine wpAnyH_ready (rs := [2]) (by kernel_rfl) (by simp) ?_
            refine AllReadyH.cons rfl (fun K hK => ?_) (AllReadyH.nil)
            go_simp
            refine (l5Id_any y (some ⟨gs, 0, none⟩) (some ⟨g, 0, none⟩) (some ⟨gt, 0, none⟩) ks kl kt _ (HHs.out _ hHeld).stopsIn (HHs.out _ hHeld).linesIn (HHs.out _ hHeld).tripsIn hyl).mono ?_
            rintro e w5 ⟨rfl, hb5⟩
            have hS5 := SB.call hHeld hb5
            have d0 : w5.cell? ⟨w3.heap.size, 0, none⟩ = some (.slice (some ⟨gs, 0, none⟩) y.net.stops.length ks) := (hb5.cell (p := ⟨w3.heap.size, 0, none⟩) (SB.lt hHeld)).trans b0
            have d1 : w5.cell? ⟨w3.heap.size, 1, none⟩ = some (.slice (some ⟨g, 0, none⟩) y.net.lines.length kl) := (hb5.cell (p := ⟨w3.heap.size, 1, none⟩) (SB.lt hHeld)).trans b1
            have d2 : w5.cell? ⟨w3.heap.size, 2, none⟩ = some (.slice (some ⟨gt, 0, none⟩) y.trips.length kt) := (hb5.cell (p := ⟨w3.heap.size, 2, none⟩) (SB.lt hHeld)).trans b2
            refine hK.out _ _ ?_ (fun hHeld => ?_)
            · repeat' first | assumption | (refine SB.drew ?_) | (refine SB.alloc ?_ _) | (refine SB.set ?_ _ _)
            clear hK K
            try simp only [Act.put, List.getElem_toArray, List.getElem_cons_succ, List.getElem_cons_zero, List.setIfInBounds_toArray, List.set_cons_zero, List.set_cons_succ]
            refine wpAnyH_take (i := 5) (v := ?_) rfl (by kernel_rfl) (by kernel_rfl) (by kernel_rfl) (fun _ _ _ h => h) (Or.inl ⟨by rfl, ?_⟩) hHeld ?_
            rotate_left 1
            · intro w hSw; (try dsimp only at hSw); first | (go_simp; done) | (go_simp; with_reducible rfl) | (go_simp; rfl)
            try simp only [Act.put, List.getElem_toArray, List.getElem_cons_succ, List.getElem_cons_zero, List.setIfInBounds_toArray, List.set_cons_zero, List.set_cons_succ]
            refine wpAnyH_ready (rs := [6]) (by kernel_rfl) (by simp) ?_
            refine AllReadyH.cons rfl (fun K hK => ?_) (AllReadyH.nil)
            go_simp
            refine (l5Put_any y ⟨frI y.trips, l, s'⟩ gs 0 ks g 0 kl gt 0 kt _ (HHs.out _ hHeld).stopsIn (HHs.out _ hHeld).linesIn (HHs.out _ hHeld).tripsIn HFY.out HYX.out (HW.out.cap trivial)).mono ?_
            rintro e w6 ⟨gs6, ks6, g6, kl6, p6, r6, gt6, kt6, rfl, hcap6, hn6, hb6⟩
            have hS6 := SB.call hHeld hb6
            obtain ⟨q0, qf0⟩ := hS6.has.get (j := 0) (by omega)
            obtain ⟨q1, qf1⟩ := hS6.has.get (j := 1) (by omega)
            obtain ⟨q2, qf2⟩ := hS6.has.get (j := 2) (by omega)
            refine hK.out _ _ ?_ (fun hHeld => ?_)
            · repeat' first | assumption | (refine SB.drew ?_) | (refine SB.alloc ?_ _) | (refine SB.set ?_ _ _)
            clear hK K
            try simp only [Act.put, List.getElem_toArray, List.getElem_cons_succ, List.getElem_cons_zero, List.setIfInBounds_toArray, List.set_cons_zero, List.set_cons_succ]
            refine wpAnyH_ready (rs := [7]) (by kernel_rfl) (by simp) ?_
            refine AllReadyH.cons rfl (fun K hK => ?_) (AllReadyH.nil)
            go_simp
            refine hK.out _ _ ?_ (fun hHeld => ?_)
            · repeat' first | assumption | (refine SB.drew ?_) | (refine SB.alloc ?_ _) | (refine SB.set ?_ _ _)
            clear hK K
            try simp only [Act.put, List.getElem_toArray, List.getElem_cons_succ, List.getElem_cons_zero, List.setIfInBounds_toArray, List.set_cons_zero, List.set_cons_succ]
            refine wpAnyH_done (by kernel_rfl) ?_ _
            have hst6 := RpW.stored (y' := Y) (gs6 := gs6) (ks6 := ks6) (g6 := g6) (kl6 := kl6) (gt6 := gt6) (kt6 := kt6) HW.out hS6 (by rw [HYY.out]; exact hn6) hS5.bel.size (fun _ => by rw [HYY.out]; exact hcap6)
            rw [HYY.out] at hst6
            have HS6 := Lib.hid hst6
            clear hst6 hn6 hb6 hb5 hS5 hS6 q0 q1 q2 qf0 qf1 qf2 d0 d1 d2 hHeld
            go_wp2_with fail
            go_meet
            rw [HYY.out]
            exact ⟨gs6, ks6, g6, kl6, gt6, kt6, p6, r6, HS6.out⟩
          · go_simp
            refine (l5Id_any y (some ⟨gs, 0, none⟩) (some ⟨g, 0, none⟩) (some ⟨gt, 0, none⟩) ks kl kt _ (HHs.out _ hHeld).stopsIn (HHs.out _ hHeld).linesIn (HHs.out _ hHeld).tripsIn hyl).mono ?_
            rintro e w5 ⟨rfl, hb5⟩
            have hS5 := SB.call hHeld hb5
            have d0 : w5.cell? ⟨w3.heap.size, 0, none⟩ = some (.slice (some ⟨gs, 0, none⟩) y.net.stops.length ks) := (hb5.cell (p := ⟨w3.heap.size, 0, none⟩) (SB.lt hHeld)).trans b0
            have d1 : w5.cell? ⟨w3.heap.size, 1, none⟩ = some (.slice (some ⟨g, 0, none⟩) y.net.lines.length kl) := (hb5.cell (p := ⟨w3.heap.size, 1, none⟩) (SB.lt hHeld)).trans b1
            have d2 : w5.cell? ⟨w3.heap.size, 2, none⟩ = some (.slice (some ⟨gt, 0, none⟩) y.trips.length kt) := (hb5.cell (p := ⟨w3.heap.size, 2, none⟩) (SB.lt hHeld)).trans b2
            refine hK.out _ _ ?_ (fun hHeld => ?_)
            · repeat' first | assumption | (refine SB.drew ?_) | (refine SB.alloc ?_ _) | (refine SB.set ?_ _ _)
            clear hK K
            try simp only [Act.put, List.getElem_toArray, List.getElem_cons_succ, List.getElem_cons_zero, List.setIfInBounds_toArray, List.set_cons_zero, List.set_cons_succ]
            refine wpAnyH_take (i := 5) (v := ?_) rfl (by kernel_rfl) (by kernel_rfl) (by kernel_rfl) (fun _ _ _ h => h) (Or.inl ⟨by rfl, ?_⟩) hHeld ?_
            rotate_left 1
            · intro w hSw; (try dsimp only at hSw); first | (go_simp; done) | (go_simp; with_reducible rfl) | (go_simp; rfl)
            try simp only [Act.put, List.getElem_toArray, List.getElem_cons_succ, List.getElem_cons_zero, List.setIfInBounds_toArray, List.set_cons_zero, List.set_cons_succ]
            refine wpAnyH_ready (rs := [0]) (by kernel_rfl) (by simp) ?_
            refine AllReadyH.cons rfl (fun K hK => ?_) (AllReadyH.nil)
            go_simp
            refine hK.out _ _ ?_ (fun hHeld => ?_)
            · repeat' first | assumption | (refine SB.drew ?_) | (refine SB.alloc ?_ _) | (refine SB.set ?_ _ _)
            clear hK K
            try simp only [Act.put, List.getElem_toArray, List.getElem_cons_succ, List.getElem_cons_zero, List.setIfInBounds_toArray, List.set_cons_zero, List.set_cons_succ]
            refine wpAnyH_ready (rs := [6]) (by kernel_rfl) (by simp) ?_
            refine AllReadyH.cons rfl (fun K hK => ?_) (AllReadyH.nil)
            go_simp
            refine (l5Put_any y ⟨frI y.trips, l, s'⟩ gs 0 ks g 0 kl gt 0 kt _ (HHs.out _ hHeld).stopsIn (HHs.out _ hHeld).linesIn (HHs.out _ hHeld).tripsIn HFY.out HYX.out (HW.out.cap trivial)).mono ?_
            rintro e w6 ⟨gs6, ks6, g6, kl6, p6, r6, gt6, kt6, rfl, hcap6, hn6, hb6⟩
            have hS6 := SB.call hHeld hb6
            obtain ⟨q0, qf0⟩ := hS6.has.get (j := 0) (by omega)
            obtain ⟨q1, qf1⟩ := hS6.has.get (j := 1) (by omega)
            obtain ⟨q2, qf2⟩ := hS6.has.get (j := 2) (by omega)
            refine hK.out _ _ ?_ (fun hHeld => ?_)
            · repeat' first | assumption | (refine SB.drew ?_) | (refine SB.alloc ?_ _) | (refine SB.set ?_ _ _)
            clear hK K
            try simp only [Act.put, List.getElem_toArray, List.getElem_cons_succ, List.getElem_cons_zero, List.setIfInBounds_toArray, List.set_cons_zero, List.set_cons_succ]
            refine wpAnyH_ready (rs := [7]) (by kernel_rfl) (by simp) ?_
            refine AllReadyH.cons rfl (fun K hK => ?_) (AllReadyH.nil)
            go_simp
            refine hK.out _ _ ?_ (fun hHeld => ?_)
            · repeat' first | assumption | (refine SB.drew ?_) | (refine SB.alloc ?_ _) | (refine SB.set ?_ _ _)
            clear hK K
            try simp only [Act.put, List.getElem_toArray, List.getElem_cons_succ, List.getElem_cons_zero, List.setIfInBounds_toArray, List.set_cons_zero, List.set_cons_succ]
            refine wpAnyH_done (by kernel_rfl) ?_ _
            have hst6 := RpW.stored (y' := Y) (gs6 := gs6) (ks6 := ks6) (g6 := g6) (kl6 := kl6) (gt6 := gt6) (kt6 := kt6) HW.out hS6 (by rw [HYY.out]; exact hn6) hS5.bel.size (fun _ => by rw [HYY.out]; exact hcap6)
            rw [HYY.out] at hst6
            have HS6 := Lib.hid hst6
            clear hst6 hn6 hb6 hb5 hS5 hS6 q0 q1 q2 qf0 qf1 qf2 d0 d1 d2 hHeld
            go_wp2_with fail
            go_meet
            rw [HYY.out]
            exact ⟨gs6, ks6, g6, kl6, gt6, kt6, p6, r6, HS6.out⟩
      case rest =>
        obtain ⟨gs6, ks6, g6, kl6, gt6, kt6, p6, r6, hw6⟩ := hcut
        have HW6 := Lib.hid hw6
        have k0 := hw6.c0
        have k1 := hw6.c1
        have k2 := hw6.c2
        have hkw : IntKind.i64.wrap ((k : Int) + 1) = (k : Int) + 1 := IntWalk.i64_in _ (by omega)
        have HYB : Hid (netB Y.net = true) := Lib.hid (by rw [hYn.out]; exact ttB_net HBX.out)
        have HG7 := Lib.hid (l5Good_any Y (some ⟨gs6, 0, none⟩) (some ⟨g6, 0, none⟩) (some ⟨gt6, 0, none⟩) ks6 kl6 kt6 wc hw6.tt.stopsIn hw6.tt.linesIn hw6.tt.tripsIn HYF.out)
        have hts : IntKind.i64.wrap (t - s') = t - s' := IntWalk.i64_in _ (by omega)
        clear hS0 b0 b1 b2 hw6 hdt hds
        go_wp2_with fail
        refine HG7.out.mono ?_
        rintro e w7 ⟨rfl, hb7⟩
        have HW7 := Lib.hid (HW6.out.call hb7)
        clear hb7 k0 k1 k2
        cases hyy : ttB Y
        · have HR : Hid (rpR x l s t h = (zeroT, 0, false)) := Lib.hid (by rw [HRY.out, ← HRP.out]; exact rpS_bad hst' (by rw [HYY.out] at hyy; exact hyy))
          skip
          clear hyy
          obtain ⟨t0, t1, t2⟩ := HW7.out.tw.res
          have f0 := HW7.out.tw.free 0
          have f1 := HW7.out.tw.free 1
          have f2 := HW7.out.tw.free 2
          go_wp2_with fail
          refine bodyPost_ret (v := .tuple #[.agg #[.slice none 0 0, .slice none 0 0, .slice none 0 0], .int .i64 0, .bool false]) (by simp [results, Try.results66, go_sem, t0, t1, t2]) rfl ?_
          refine retTtI_eq HR.out (retTtI_zero ?_)
          repeat' (refine Below.setCell ?_ (by simp) _)
          exact HW7.out.tw.bel
        · skip
          by_cases hbr : t - s' < h
          · have HRR : Hid (rpR x l s t h = (Y, (k : Int) + 1, true)) := Lib.hid (by rw [HRY.out, ← HRP.out, HYY.out]; exact rpS_last hst' (by rw [HYY.out] at hyy; exact hyy) hbr)
            have hdb : decide (t - s' < h) = true := decide_eq_true hbr
            clear hyy
            obtain ⟨t0, t1, t2⟩ := HW7.out.tw.res
            have f0 := HW7.out.tw.free 0
            have f1 := HW7.out.tw.free 1
            have f2 := HW7.out.tw.free 2
            have k0 := HW7.out.c0
            have k1 := HW7.out.c1
            have k2 := HW7.out.c2
            have hl0 := HW7.out.l0
            go_wp2_with fail
            refine bodyPost_ret (v := .tuple #[.agg #[.slice (some ⟨gs6, 0, none⟩) Y.net.stops.length ks6, .slice (some ⟨g6, 0, none⟩) Y.net.lines.length kl6, .slice (some ⟨gt6, 0, none⟩) Y.trips.length kt6], .int .i64 ((k : Int) + 1), .bool true]) (by simp [results, Try.results66, go_sem, t0, t1, t2]) rfl ?_
            refine retTtI_eq HRR.out ⟨some ⟨gs6, 0, none⟩, ks6, some ⟨g6, 0, none⟩, kl6, some ⟨gt6, 0, none⟩, kt6, rfl, ?_, ?_⟩
            · refine (TtN.lower (lo := W2.heap.size) ?_ (by omega)).tto (gs := gs6) (g := g6) (gt := gt6) (p := p6) (r := r6)
              repeat' (refine TtN.set ?_ (by show w.heap.size + 1 < W2.heap.size; omega) _)
              exact HW7.out.tt
            · repeat' (refine Below.setCell ?_ (by simp) _)
              exact HW7.out.tw.bel
          · have HRG : Hid (rpS f Y l (s' + h) t h ((k : Int) + 1) = rpS 14 x l s t h 0) := Lib.hid (by rw [← HRP.out, HYY.out]; exact (rpS_go hst' (by rw [HYY.out] at hyy; exact hyy) hbr).symm)
            have hdb : decide (t - s' < h) = false := decide_eq_false hbr
            have hsw : IntKind.i64.wrap (s' + h) = s' + h := IntWalk.i64_in _ (by omega)
            have HYY2 := Lib.hid hyy
            have HI2 : Hid (s ≤ t ↔ s' + h ≤ t) := Lib.hid ⟨fun _ => by omega, fun _ => HIFF.out.mpr hst'⟩
            clear hyy
            go_wp2_with fail
            go_roundw
            case rel => exact ⟨k + 1, s' + h, Y, gs6, ks6, g6, kl6, gt6, kt6, p6, r6, by push_cast; rfl, rfl, by rw [hYl.out, HLEN.out]; omega, HYY2.out, hYn.out, by omega, by omega, HI2.out, by rw [show 14 - (k + 1) = f by have := HFk.out; omega]; push_cast; exact HRG.out, HW7.out⟩
            case measure => simp [intOf]; omega
    · have HRR : Hid (rpR x l s t h = (y, (k : Int), true)) := Lib.hid (by rw [HRY.out, ← HRP.out]; exact rpS_end hst')
      have hdt : decide (s' ≤ t) = false := decide_eq_false hst'
      have hds : decide (s ≤ t) = false := decide_eq_false (fun h => hst' (HIFF.out.mp h))
      obtain ⟨t0, t1, t2⟩ := HW.out.tw.res
      have f0 := HW.out.tw.free 0
      have f1 := HW.out.tw.free 1
      have f2 := HW.out.tw.free 2
      have k0 := HW.out.c0
      have k1 := HW.out.c1
      have k2 := HW.out.c2
      have hl0 := HW.out.l0
      go_wp2_with fail
      refine bodyPost_ret (v := .tuple #[.agg #[.slice (some ⟨gs, 0, none⟩) y.net.stops.length ks, .slice (some ⟨g, 0, none⟩) y.net.lines.length kl, .slice (some ⟨gt, 0, none⟩) y.trips.length kt], .int .i64 (k : Int), .bool true]) (by simp [results, Try.results66, go_sem, t0, t1, t2]) rfl ?_
      refine retTtI_eq HRR.out ⟨some ⟨gs, 0, none⟩, ks, some ⟨g, 0, none⟩, kl, some ⟨gt, 0, none⟩, kt, rfl, ?_, ?_⟩
      · refine (TtN.lower (lo := W2.heap.size) ?_ (by omega)).tto (gs := gs) (g := g) (gt := gt) (p := p) (r := r)
        repeat' (refine TtN.set ?_ (by show w.heap.size + 1 < W2.heap.size; omega) _)
        exact HW.out.tt
      · repeat' (refine Below.setCell ?_ (by simp) _)
        exact HW.out.tw.bel
end Go.Proofs.Ytambgommeannnaa
