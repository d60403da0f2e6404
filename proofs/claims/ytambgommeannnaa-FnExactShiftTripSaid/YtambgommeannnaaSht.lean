/- ShiftTrip: both contracts. -/
import Derived.Test.YtambgommeannnaaTte
import Derived.Test.YtambgommeannnaaItu
namespace Go.Proofs.Ytambgommeannnaa
open Go.ChangeShapes Go.WideShapes Go.ChangeAt Go.RowKit Go.PlainAid
set_option linter.unusedVariables false
set_option linter.unusedSimpArgs false

theorem RetTtS.n {x : TTD} {w w' : World} {e : Ending} (h : RetTtS x w e w') : ∃ gs ks g cl p r gt ct, e = .returned (.agg #[.slice (some ⟨gs, 0, none⟩) x.net.stops.length ks, .slice (some ⟨g, 0, none⟩) x.net.lines.length cl, .slice (some ⟨gt, 0, none⟩) x.trips.length ct]) ∧ TtN w' w.heap.size x gs g gt p r ∧ OwnT w' w.heap.size (.slice (some ⟨gt, 0, none⟩) x.trips.length ct) x.trips ∧ Below w.heap.size w w' := by
  obtain ⟨gs, ks, g, cl, p, r, gt, ct, h1, h2, h3, h4, h5, h6⟩ := h
  have hr := h3.row
  exact ⟨gs, ks, g, cl, p, r, gt, ct, h1, ⟨h2, i3_of_row hr.cell hr.free, hr.ge, hr.lt, h4, h5⟩, h3, h6⟩
theorem i3_free {w : World} {b : Nat} {xs : List I3} (h : I3sIn w (Zone.one b) (some ⟨b, 0, none⟩) xs) (h0 : 0 < xs.length) : ∀ j, w.frozen? ⟨b, j, none⟩ = false := by
  obtain ⟨b', o', e, _, hf, _⟩ := h h0
  simp only [Option.some.injEq, Addr.mk.injEq, and_true] at e
  obtain ⟨rfl, _⟩ := e
  exact hf trivial
theorem trip_start {x : TTD} (h : ttB x = true) {k : Nat} (hk : k < x.trips.length) : 0 ≤ (nth3 x.trips k).c ∧ (nth3 x.trips k).c ≤ 1799 := by
  have h1 := (((ttB_ok h).2.2 k hk).1).2.2.2.2.1
  unfold tmB at h1
  simpa using h1
theorem shL_in {w : World} {gt k : Nat} {xs : List I3} {m : Int} (h : I3sIn w (Zone.one gt) (some ⟨gt, 0, none⟩) xs) (hk : k < xs.length) : I3sIn (w.setCell ⟨gt, k * 3 + 2, none⟩ (.int .i64 ((nth3 xs k).c + m))) (Zone.one gt) (some ⟨gt, 0, none⟩) (shL xs k m) := fun _ =>
  ⟨gt, 0, rfl, ⟨Nat.le_refl _, Nat.lt_succ_self _⟩, fun _ j => by rw [World.frozen?_setCell]; exact i3_free h (by omega) j, fun j hj => by
    rw [shL_len] at hj
    obtain ⟨_, d0, d1, d2⟩ := h.addr hj
    obtain ⟨_, _, _, e2⟩ := h.addr hk
    have hs : (shL xs k m).getD j default = if k = j then ⟨(nth3 xs k).a, (nth3 xs k).b, (nth3 xs k).c + m⟩ else nth3 xs j := by
      unfold shL
      rw [List.getD_eq_getElem?_getD, List.getElem?_set]
      by_cases e : k = j
      · subst e; simp [hk]
      · rw [if_neg e, if_neg e]; rfl
    rw [hs]
    have hp : 0 + at3 j = 0 + j * 3 := rfl
    rw [hp]
    by_cases e : k = j
    · subst e
      rw [if_pos rfl]
      refine ⟨?_, ?_, ?_⟩
      · rw [World.cell?_setCell_other _ _ _ _ (addr_ne (by omega))]; exact d0
      · rw [World.cell?_setCell_other _ _ _ _ (addr_ne (by omega))]; exact d1
      · rw [Nat.zero_add] at e2 ⊢
        exact World.cell?_setCell_same _ _ _ e2
    · rw [if_neg e]
      refine ⟨?_, ?_, ?_⟩
      · rw [World.cell?_setCell_other _ _ _ _ (addr_ne (by omega))]; exact d0
      · rw [World.cell?_setCell_other _ _ _ _ (addr_ne (by omega))]; exact d1
      · rw [World.cell?_setCell_other _ _ _ _ (addr_ne (by omega))]; exact d2⟩
theorem set3_in {w : World} {gt k : Nat} {xs : List I3} {t : I3} (h : I3sIn w (Zone.one gt) (some ⟨gt, 0, none⟩) xs) (hk : k < xs.length) : I3sIn (((w.setCell ⟨gt, k * 3, none⟩ (.int .i64 t.a)).setCell ⟨gt, k * 3 + 1, none⟩ (.int .i64 t.b)).setCell ⟨gt, k * 3 + 2, none⟩ (.int .i64 t.c)) (Zone.one gt) (some ⟨gt, 0, none⟩) (xs.set k t) := fun _ =>
  ⟨gt, 0, rfl, ⟨Nat.le_refl _, Nat.lt_succ_self _⟩, fun _ j => by rw [World.frozen?_setCell, World.frozen?_setCell, World.frozen?_setCell]; exact i3_free h (by omega) j, fun j hj => by
    rw [List.length_set] at hj
    obtain ⟨_, d0, d1, d2⟩ := h.addr hj
    obtain ⟨_, e0, e1, e2⟩ := h.addr hk
    have hs : (xs.set k t).getD j default = if k = j then t else nth3 xs j := by
      rw [List.getD_eq_getElem?_getD, List.getElem?_set]
      by_cases e : k = j
      · subst e; simp [hk]
      · rw [if_neg e, if_neg e]; rfl
    rw [hs]
    have hp : 0 + at3 j = 0 + j * 3 := rfl
    rw [hp]
    by_cases e : k = j
    · subst e
      rw [if_pos rfl]
      rw [Nat.zero_add] at e0 e1 e2 ⊢
      have e1' : (w.setCell ⟨gt, k * 3, none⟩ (.int .i64 t.a)).cell? ⟨gt, k * 3 + 1, none⟩ = some (.int .i64 (nth3 xs k).b) := by rw [World.cell?_setCell_other _ _ _ _ (addr_ne (by omega))]; exact e1
      have e2' : ((w.setCell ⟨gt, k * 3, none⟩ (.int .i64 t.a)).setCell ⟨gt, k * 3 + 1, none⟩ (.int .i64 t.b)).cell? ⟨gt, k * 3 + 2, none⟩ = some (.int .i64 (nth3 xs k).c) := by rw [World.cell?_setCell_other _ _ _ _ (addr_ne (by omega)), World.cell?_setCell_other _ _ _ _ (addr_ne (by omega))]; exact e2
      refine ⟨?_, ?_, ?_⟩
      · rw [World.cell?_setCell_other _ _ _ _ (addr_ne (by omega)), World.cell?_setCell_other _ _ _ _ (addr_ne (by omega))]
        exact World.cell?_setCell_same _ _ _ e0
      · rw [World.cell?_setCell_other _ _ _ _ (addr_ne (by omega))]
        exact World.cell?_setCell_same _ _ _ e1'
      · exact World.cell?_setCell_same _ _ _ e2'
    · rw [if_neg e]
      refine ⟨?_, ?_, ?_⟩
      all_goals
        rw [World.cell?_setCell_other _ _ _ _ (addr_ne (by omega)), World.cell?_setCell_other _ _ _ _ (addr_ne (by omega)), World.cell?_setCell_other _ _ _ _ (addr_ne (by omega))]
        assumption⟩
set_option maxRecDepth 100000 in
set_option maxHeartbeats 4000000 in
theorem implShift_no1 (x : TTD) (id m : Int) (b o ca bl ol cl bt ot ct : Nat) (w : World) (hA : StrsIn w (Zone.below w.heap.size) (some ⟨b, o, none⟩) x.net.stops) (hL : LinesIn w (Zone.below w.heap.size) (some ⟨bl, ol, none⟩) x.net.lines) (hT : I3sIn w (Zone.below w.heap.size) (some ⟨bt, ot, none⟩) x.trips) (hx : FitsT x) (hb : ttB x = false) :
    Calls Try.prog 56 #[.agg #[.slice (some ⟨b, o, none⟩) x.net.stops.length ca, .slice (some ⟨bl, ol, none⟩) x.net.lines.length cl, .slice (some ⟨bt, ot, none⟩) x.trips.length ct], .int .i64 id, .int .i64 m] w (RetTt (shR x id m).1 (shR x id m).2 w) := by
  have HR := Lib.hid (shR_no (x := x) (id := id) (m := m) (.inl hb))
  obtain ⟨W0, hW0⟩ : ∃ W0, W0 = ((w.alloc (.cells #[.slice (some ⟨b, o, none⟩) x.net.stops.length ca, .slice (some ⟨bl, ol, none⟩) x.net.lines.length cl, .slice (some ⟨bt, ot, none⟩) x.trips.length ct] 49)).alloc (.cells #[.slice none 0 0, .slice none 0 0, .slice none 0 0] 49)) := ⟨_, rfl⟩
  have H0 : Hid (TW w W0 x (some ⟨b, o, none⟩) ca (some ⟨bl, ol, none⟩) cl (some ⟨bt, ot, none⟩) ct) := Lib.hid (by rw [hW0]; exact TW.start hA hL hT)
  have htl : x.trips.length ≤ 1048576 := hx.trips
  clear hA hL hT
  go_enter Try.func56, Try.ntmps56
  go_upto_region 1 with fail
  rw [← hW0]
  clear hW0
  obtain ⟨c0_0, c0_1, c0_2⟩ := H0.out.box.cells
  have HG1 := Lib.hid (isValidTimetable_any x (some ⟨b, o, none⟩) (some ⟨bl, ol, none⟩) (some ⟨bt, ot, none⟩) ca cl ct W0 H0.out.box.stops H0.out.box.lines H0.out.box.trips hx)
  go_wp2_with fail
  refine HG1.out.mono ?_
  rintro e w1 ⟨rfl, hb1⟩
  rw [hb]
  clear hb
  have H1 := Lib.hid (H0.out.call hb1)
  have hz1 := hb1.size
  clear hb1 c0_0 c0_1 c0_2
  obtain ⟨c1_0, c1_1, c1_2⟩ := H1.out.box.cells
  obtain ⟨t0, t1, t2⟩ := H1.out.res
  have f0 := H1.out.free 0
  have f1 := H1.out.free 1
  have f2 := H1.out.free 2
  go_wp2_with fail
  refine bodyPost_ret (v := .tuple #[.agg #[.slice none 0 0, .slice none 0 0, .slice none 0 0], .bool false]) (by simp [results, Try.results56, go_sem, t0, t1, t2]) rfl ?_
  refine retTt_eq HR.out (retTt_zero ?_)
  repeat' (refine Below.setCell ?_ (by simp) _)
  exact H1.out.bel
set_option maxRecDepth 100000 in
set_option maxHeartbeats 4000000 in
theorem implShift_no2 (x : TTD) (id m : Int) (b o ca bl ol cl bt ot ct : Nat) (w : World) (hA : StrsIn w (Zone.below w.heap.size) (some ⟨b, o, none⟩) x.net.stops) (hL : LinesIn w (Zone.below w.heap.size) (some ⟨bl, ol, none⟩) x.net.lines) (hT : I3sIn w (Zone.below w.heap.size) (some ⟨bt, ot, none⟩) x.trips) (hx : FitsT x) (hb : ttB x = true) (hi : inB m (-1799) 1799 = false) :
    Calls Try.prog 56 #[.agg #[.slice (some ⟨b, o, none⟩) x.net.stops.length ca, .slice (some ⟨bl, ol, none⟩) x.net.lines.length cl, .slice (some ⟨bt, ot, none⟩) x.trips.length ct], .int .i64 id, .int .i64 m] w (RetTt (shR x id m).1 (shR x id m).2 w) := by
  have HR := Lib.hid (shR_no (x := x) (id := id) (m := m) (.inr (.inr (.inl hi))))
  have HI := Lib.hid hi
  clear hi
  obtain ⟨W0, hW0⟩ : ∃ W0, W0 = ((w.alloc (.cells #[.slice (some ⟨b, o, none⟩) x.net.stops.length ca, .slice (some ⟨bl, ol, none⟩) x.net.lines.length cl, .slice (some ⟨bt, ot, none⟩) x.trips.length ct] 49)).alloc (.cells #[.slice none 0 0, .slice none 0 0, .slice none 0 0] 49)) := ⟨_, rfl⟩
  have H0 : Hid (TW w W0 x (some ⟨b, o, none⟩) ca (some ⟨bl, ol, none⟩) cl (some ⟨bt, ot, none⟩) ct) := Lib.hid (by rw [hW0]; exact TW.start hA hL hT)
  have htl : x.trips.length ≤ 1048576 := hx.trips
  clear hA hL hT
  go_enter Try.func56, Try.ntmps56
  go_upto_region 1 with fail
  rw [← hW0]
  clear hW0
  obtain ⟨c0_0, c0_1, c0_2⟩ := H0.out.box.cells
  have HG1 := Lib.hid (isValidTimetable_any x (some ⟨b, o, none⟩) (some ⟨bl, ol, none⟩) (some ⟨bt, ot, none⟩) ca cl ct W0 H0.out.box.stops H0.out.box.lines H0.out.box.trips hx)
  go_wp2_with fail
  refine HG1.out.mono ?_
  rintro e w1 ⟨rfl, hb1⟩
  rw [hb]
  clear hb
  have H1 := Lib.hid (H0.out.call hb1)
  have hz1 := hb1.size
  clear hb1 c0_0 c0_1 c0_2
  obtain ⟨c1_0, c1_1, c1_2⟩ := H1.out.box.cells
  obtain ⟨t0, t1, t2⟩ := H1.out.res
  have f0 := H1.out.free 0
  have f1 := H1.out.free 1
  have f2 := H1.out.free 2
  go_wp2_with (go_at_call 131; refine (within_any _ _ _ _).mono ?_; rintro e w2 ⟨rfl, rfl⟩; rw [HI.out])
  refine bodyPost_ret (v := .tuple #[.agg #[.slice none 0 0, .slice none 0 0, .slice none 0 0], .bool false]) (by simp [results, Try.results56, go_sem, t0, t1, t2]) rfl ?_
  refine retTt_eq HR.out (retTt_zero ?_)
  repeat' (refine Below.setCell ?_ (by simp) _)
  exact H1.out.bel
set_option maxRecDepth 100000 in
set_option maxHeartbeats 4000000 in
theorem implShift_no3 (x : TTD) (id m : Int) (b o ca bl ol cl bt ot ct : Nat) (w : World) (hA : StrsIn w (Zone.below w.heap.size) (some ⟨b, o, none⟩) x.net.stops) (hL : LinesIn w (Zone.below w.heap.size) (some ⟨bl, ol, none⟩) x.net.lines) (hT : I3sIn w (Zone.below w.heap.size) (some ⟨bt, ot, none⟩) x.trips) (hx : FitsT x) (hb : ttB x = true) (hi : inB m (-1799) 1799 = true) (hj : idI x.trips id < 0) :
    Calls Try.prog 56 #[.agg #[.slice (some ⟨b, o, none⟩) x.net.stops.length ca, .slice (some ⟨bl, ol, none⟩) x.net.lines.length cl, .slice (some ⟨bt, ot, none⟩) x.trips.length ct], .int .i64 id, .int .i64 m] w (RetTt (shR x id m).1 (shR x id m).2 w) := by
  have HR := Lib.hid (shR_no (x := x) (id := id) (m := m) (.inr (.inl hj)))
  have HI := Lib.hid hi
  clear hi
  obtain ⟨W0, hW0⟩ : ∃ W0, W0 = ((w.alloc (.cells #[.slice (some ⟨b, o, none⟩) x.net.stops.length ca, .slice (some ⟨bl, ol, none⟩) x.net.lines.length cl, .slice (some ⟨bt, ot, none⟩) x.trips.length ct] 49)).alloc (.cells #[.slice none 0 0, .slice none 0 0, .slice none 0 0] 49)) := ⟨_, rfl⟩
  have H0 : Hid (TW w W0 x (some ⟨b, o, none⟩) ca (some ⟨bl, ol, none⟩) cl (some ⟨bt, ot, none⟩) ct) := Lib.hid (by rw [hW0]; exact TW.start hA hL hT)
  have htl : x.trips.length ≤ 1048576 := hx.trips
  clear hA hL hT
  go_enter Try.func56, Try.ntmps56
  go_upto_region 1 with fail
  rw [← hW0]
  clear hW0
  obtain ⟨c0_0, c0_1, c0_2⟩ := H0.out.box.cells
  have HG1 := Lib.hid (isValidTimetable_any x (some ⟨b, o, none⟩) (some ⟨bl, ol, none⟩) (some ⟨bt, ot, none⟩) ca cl ct W0 H0.out.box.stops H0.out.box.lines H0.out.box.trips hx)
  go_wp2_with fail
  refine HG1.out.mono ?_
  rintro e w1 ⟨rfl, hb1⟩
  rw [hb]
  clear hb
  have H1 := Lib.hid (H0.out.call hb1)
  have hz1 := hb1.size
  clear hb1 c0_0 c0_1 c0_2
  obtain ⟨c1_0, c1_1, c1_2⟩ := H1.out.box.cells
  have HG2 := Lib.hid (tripIndex_any x (some ⟨b, o, none⟩) (some ⟨bl, ol, none⟩) (some ⟨bt, ot, none⟩) ca cl ct id w1 H1.out.box.trips htl)
  go_wp2_with (go_at_call 131; refine (within_any _ _ _ _).mono ?_; rintro e w2 ⟨rfl, rfl⟩; rw [HI.out])
  refine HG2.out.mono ?_
  rintro e w2 ⟨rfl, hb2⟩
  skip
  have H2 := Lib.hid (H1.out.call hb2)
  have hz2 := hb2.size
  clear hb2 c1_0 c1_1 c1_2
  obtain ⟨c2_0, c2_1, c2_2⟩ := H2.out.box.cells
  have hd : decide (idI x.trips id < 0) = true := decide_eq_true hj
  obtain ⟨t0, t1, t2⟩ := H2.out.res
  have f0 := H2.out.free 0
  have f1 := H2.out.free 1
  have f2 := H2.out.free 2
  go_wp2_with fail
  refine bodyPost_ret (v := .tuple #[.agg #[.slice none 0 0, .slice none 0 0, .slice none 0 0], .bool false]) (by simp [results, Try.results56, go_sem, t0, t1, t2]) rfl ?_
  refine retTt_eq HR.out (retTt_zero ?_)
  repeat' (refine Below.setCell ?_ (by simp) _)
  exact H2.out.bel
set_option maxRecDepth 100000 in
set_option maxHeartbeats 4000000 in
theorem implShift_go (x : TTD) (id m : Int) (b o ca bl ol cl bt ot ct : Nat) (w : World) (hA : StrsIn w (Zone.below w.heap.size) (some ⟨b, o, none⟩) x.net.stops) (hL : LinesIn w (Zone.below w.heap.size) (some ⟨bl, ol, none⟩) x.net.lines) (hT : I3sIn w (Zone.below w.heap.size) (some ⟨bt, ot, none⟩) x.trips) (hx : FitsT x) (hb : ttB x = true) (hi : inB m (-1799) 1799 = true) (hj : 0 ≤ idI x.trips id) :
    Calls Try.prog 56 #[.agg #[.slice (some ⟨b, o, none⟩) x.net.stops.length ca, .slice (some ⟨bl, ol, none⟩) x.net.lines.length cl, .slice (some ⟨bt, ot, none⟩) x.trips.length ct], .int .i64 id, .int .i64 m] w (RetTt (shR x id m).1 (shR x id m).2 w) := by
  obtain ⟨k, hk, hkk⟩ := idI_at hj
  have HX := Lib.hid (netX_of (ttB_net hb))
  have HB := Lib.hid hb
  have HI := Lib.hid hi
  have HJ := Lib.hid hj
  have hst := trip_start hb hk
  have hmb := inB_iff.mp hi
  have HKK := Lib.hid hkk
  clear hi hj hkk
  obtain ⟨W0, hW0⟩ : ∃ W0, W0 = ((w.alloc (.cells #[.slice (some ⟨b, o, none⟩) x.net.stops.length ca, .slice (some ⟨bl, ol, none⟩) x.net.lines.length cl, .slice (some ⟨bt, ot, none⟩) x.trips.length ct] 49)).alloc (.cells #[.slice none 0 0, .slice none 0 0, .slice none 0 0] 49)) := ⟨_, rfl⟩
  have H0 : Hid (TW w W0 x (some ⟨b, o, none⟩) ca (some ⟨bl, ol, none⟩) cl (some ⟨bt, ot, none⟩) ct) := Lib.hid (by rw [hW0]; exact TW.start hA hL hT)
  have htl : x.trips.length ≤ 1048576 := hx.trips
  clear hA hL hT
  go_enter Try.func56, Try.ntmps56
  go_upto_region 1 with fail
  rw [← hW0]
  clear hW0
  obtain ⟨c0_0, c0_1, c0_2⟩ := H0.out.box.cells
  have HG1 := Lib.hid (isValidTimetable_any x (some ⟨b, o, none⟩) (some ⟨bl, ol, none⟩) (some ⟨bt, ot, none⟩) ca cl ct W0 H0.out.box.stops H0.out.box.lines H0.out.box.trips hx)
  go_wp2_with fail
  refine HG1.out.mono ?_
  rintro e w1 ⟨rfl, hb1⟩
  rw [hb]
  clear hb
  have H1 := Lib.hid (H0.out.call hb1)
  have hz1 := hb1.size
  clear hb1 c0_0 c0_1 c0_2
  obtain ⟨c1_0, c1_1, c1_2⟩ := H1.out.box.cells
  have HG2 := Lib.hid (tripIndex_any x (some ⟨b, o, none⟩) (some ⟨bl, ol, none⟩) (some ⟨bt, ot, none⟩) ca cl ct id w1 H1.out.box.trips htl)
  go_wp2_with (go_at_call 131; refine (within_any _ _ _ _).mono ?_; rintro e w2 ⟨rfl, rfl⟩; rw [HI.out])
  refine HG2.out.mono ?_
  rintro e w2 ⟨rfl, hb2⟩
  rw [HKK.out]
  have H2 := Lib.hid (H1.out.call hb2)
  have hz2 := hb2.size
  clear hb2 c1_0 c1_1 c1_2
  obtain ⟨c2_0, c2_1, c2_2⟩ := H2.out.box.cells
  have hd : decide ((k : Int) < 0) = false := decide_eq_false (by omega)
  have HG3 := Lib.hid (copyTT_any x b o ca bl ol cl bt ot ct w2 H2.out.box.stops H2.out.box.lines H2.out.box.trips hx HX.out)
  go_wp2_with fail
  refine HG3.out.mono ?_
  intro e w3 hr
  obtain ⟨gs, ks, g, kl, p, r, gt, kt, rfl, hn, hot, hb3⟩ := hr.n
  have H3 := Lib.hid (H2.out.call hb3)
  have hz3 := hb3.size
  have HN3 := Lib.hid hn
  have HO3 := Lib.hid hot
  clear hb3 hr hn hot c2_0 c2_1 c2_2
  go_upto_region 7 with fail
  obtain ⟨W4, hW4⟩ : ∃ W4, W4 = (w3.alloc (.cells #[.slice (some ⟨gs, 0, none⟩) x.net.stops.length ks, .slice (some ⟨g, 0, none⟩) x.net.lines.length kl, .slice (some ⟨gt, 0, none⟩) x.trips.length kt] 49)) := ⟨_, rfl⟩
  rw [← hW4]
  have H4 : Hid (TW w W4 x (some ⟨b, o, none⟩) ca (some ⟨bl, ol, none⟩) cl (some ⟨bt, ot, none⟩) ct) := Lib.hid (by rw [hW4]; exact H3.out.alloc _)
  have HN4 : Hid (TtN W4 w2.heap.size x gs g gt p r) := Lib.hid (by rw [hW4]; exact HN3.out.alloc _)
  have hz4 : w3.heap.size < W4.heap.size := by rw [hW4]; simp
  have b0 : W4.cell? ⟨w3.heap.size, 0, none⟩ = some (.slice (some ⟨gs, 0, none⟩) x.net.stops.length ks) := by rw [hW4]; go_simp
  have b1 : W4.cell? ⟨w3.heap.size, 1, none⟩ = some (.slice (some ⟨g, 0, none⟩) x.net.lines.length kl) := by rw [hW4]; go_simp
  have b2 : W4.cell? ⟨w3.heap.size, 2, none⟩ = some (.slice (some ⟨gt, 0, none⟩) x.trips.length kt) := by rw [hW4]; go_simp
  have HBF : Hid (∀ j, W4.frozen? ⟨w3.heap.size, j, none⟩ = false) := Lib.hid (fun j => by rw [hW4]; go_simp)
  obtain ⟨_, d0, d1, d2⟩ := HN4.out.trip.addr hk
  rw [Nat.zero_add] at d0 d1 d2
  have hfz : ∀ j, W4.frozen? ⟨gt, j, none⟩ = false := i3_free HN4.out.trip (by omega)
  have hgt1 := HN4.out.gt1
  have hgt0 := HN3.out.gt1
  have hik : (k : Int) < (x.trips.length : Int) := by omega
  have hk0 : ¬ ((k : Int) < 0) := by omega
  clear hW4
  have hwr : IntKind.i64.wrap ((nth3 x.trips k).c + m) = (nth3 x.trips k).c + m := IntWalk.i64_in _ (by omega)
  have hf2 := hfz (k * 3 + 2)
  go_upto_region 8 with fail
  obtain ⟨W5, hW5⟩ : ∃ W5, W5 = W4.setCell ⟨gt, k * 3 + 2, none⟩ (.int .i64 ((nth3 x.trips k).c + m)) := ⟨_, rfl⟩
  rw [← hW5]
  have hlo : w.heap.size + 1 < w2.heap.size := H2.out.lt
  have hgw := HN4.out.gt0
  have HX5 : Hid (shX x id m = withTr x (shL x.trips k m)) := Lib.hid (by unfold shX; rw [HKK.out, Int.toNat_natCast])
  have HN5 : Hid (TtN W5 w2.heap.size (shX x id m) gs g gt p r) := Lib.hid (by
    rw [HX5.out, hW5]
    exact HN4.out.trips (fun c hc _ => Same.set W4 (p := ⟨gt, k * 3 + 2, none⟩) hc _) (by rw [size_set]; exact Nat.le_refl _) (shL_in HN4.out.trip hk))
  have H5 : Hid (TW w W5 x (some ⟨b, o, none⟩) ca (some ⟨bl, ol, none⟩) cl (some ⟨bt, ot, none⟩) ct) := Lib.hid (by
    rw [hW5]
    exact H4.out.kept ((Below.refl w2.heap.size W4).setCell (p := ⟨gt, k * 3 + 2, none⟩) hgw _) hlo)
  have hgb : gt ≠ w3.heap.size := by omega
  have a0 : W5.cell? ⟨w3.heap.size, 0, none⟩ = some (.slice (some ⟨gs, 0, none⟩) x.net.stops.length ks) := by rw [hW5]; exact ((Same.set W4 (p := ⟨gt, k * 3 + 2, none⟩) (Ne.symm hgb) _) 0).1.trans b0
  have a1 : W5.cell? ⟨w3.heap.size, 1, none⟩ = some (.slice (some ⟨g, 0, none⟩) x.net.lines.length kl) := by rw [hW5]; exact ((Same.set W4 (p := ⟨gt, k * 3 + 2, none⟩) (Ne.symm hgb) _) 1).1.trans b1
  have a2 : W5.cell? ⟨w3.heap.size, 2, none⟩ = some (.slice (some ⟨gt, 0, none⟩) x.trips.length kt) := by rw [hW5]; exact ((Same.set W4 (p := ⟨gt, k * 3 + 2, none⟩) (Ne.symm hgb) _) 2).1.trans b2
  have hz5 : W4.heap.size = W5.heap.size := by rw [hW5, size_set]
  clear hW5 b0 b1 b2 d0 d1 d2 hf2 hfz hwr
  have HL5 : Hid ((shX x id m).trips.length = x.trips.length) := Lib.hid (by rw [HX5.out]; exact (shL_len x.trips k m))
  have HF5 : Hid (FitsT (shX x id m)) := Lib.hid (by rw [HX5.out]; exact withTr_fits hx (by rw [shL_len]; exact htl))
  cases hb5 : ttB (shX x id m)
  · have HR := Lib.hid (shR_no (x := x) (id := id) (m := m) (.inr (.inr (.inr hb5))))
    have hq := checked_no (shX x id m) (some ⟨gs, 0, none⟩) (some ⟨g, 0, none⟩) (some ⟨gt, 0, none⟩) ks kl kt W5 HN5.out.stopsIn HN5.out.linesIn HN5.out.tripsIn HF5.out hb5
    rw [HL5.out, show (shX x id m).net = x.net from rfl] at hq
    have HG6 := Lib.hid hq
    clear hb5 hq
    go_wp2_with fail
    refine HG6.out.mono ?_
    rintro e w6 ⟨rfl, hb6⟩
    have H6 := Lib.hid (H5.out.call hb6)
    clear hb6 a0 a1 a2
    obtain ⟨t0, t1, t2⟩ := H6.out.res
    have f0 := H6.out.free 0
    have f1 := H6.out.free 1
    have f2 := H6.out.free 2
    go_wp2_with fail
    refine bodyPost_ret (v := .tuple #[.agg #[.slice none 0 0, .slice none 0 0, .slice none 0 0], .bool false]) (by simp [results, Try.results56, go_sem, t0, t1, t2]) rfl ?_
    refine retTt_eq HR.out (retTt_zero ?_)
    repeat' (refine Below.setCell ?_ (by simp) _)
    exact H6.out.bel
  · have HR := Lib.hid (shR_yes (x := x) (id := id) (m := m) HB.out HJ.out HI.out hb5)
    have hq := checked_yes (shX x id m) (some ⟨gs, 0, none⟩) (some ⟨g, 0, none⟩) (some ⟨gt, 0, none⟩) ks kl kt W5 HN5.out.stopsIn HN5.out.linesIn HN5.out.tripsIn HF5.out hb5
    rw [HL5.out, show (shX x id m).net = x.net from rfl] at hq
    have HG6 := Lib.hid hq
    clear hb5 hq
    go_wp2_with fail
    refine HG6.out.mono ?_
    rintro e w6 ⟨rfl, hb6⟩
    have H6 := Lib.hid (H5.out.call hb6)
    have HN6 := Lib.hid (HN5.out.call hb6)
    clear hb6 a0 a1 a2
    obtain ⟨t0, t1, t2⟩ := H6.out.res
    have f0 := H6.out.free 0
    have f1 := H6.out.free 1
    have f2 := H6.out.free 2
    go_wp2_with fail
    refine bodyPost_ret (v := .tuple #[.agg #[.slice (some ⟨gs, 0, none⟩) x.net.stops.length ks, .slice (some ⟨g, 0, none⟩) x.net.lines.length kl, .slice (some ⟨gt, 0, none⟩) x.trips.length kt], .bool true]) (by simp [results, Try.results56, go_sem, t0, t1, t2]) rfl ?_
    refine retTt_eq HR.out ⟨some ⟨gs, 0, none⟩, ks, some ⟨g, 0, none⟩, kl, some ⟨gt, 0, none⟩, kt, ?_, ?_, ?_⟩
    · rw [HL5.out]; rfl
    · refine (TtN.lower (lo := w2.heap.size) ?_ (by omega)).tto (gs := gs) (g := g) (gt := gt) (p := p) (r := r)
      repeat' (refine TtN.set ?_ (by show w.heap.size + 1 < w2.heap.size; omega) _)
      exact HN6.out
    · repeat' (refine Below.setCell ?_ (by simp) _)
      exact H6.out.bel
set_option maxRecDepth 100000 in
set_option maxHeartbeats 4000000 in
theorem specShift_no1 (x : TTD) (id m : Int) (b o ca bl ol cl bt ot ct : Nat) (w : World) (hA : StrsIn w (Zone.below w.heap.size) (some ⟨b, o, none⟩) x.net.stops) (hL : LinesIn w (Zone.below w.heap.size) (some ⟨bl, ol, none⟩) x.net.lines) (hT : I3sIn w (Zone.below w.heap.size) (some ⟨bt, ot, none⟩) x.trips) (hx : FitsT x) (hb : ttB x = false) :
    Calls Try.prog 55 #[.agg #[.slice (some ⟨b, o, none⟩) x.net.stops.length ca, .slice (some ⟨bl, ol, none⟩) x.net.lines.length cl, .slice (some ⟨bt, ot, none⟩) x.trips.length ct], .int .i64 id, .int .i64 m] w (RetTt (shR x id m).1 (shR x id m).2 w) := by
  have HR := Lib.hid (shR_no (x := x) (id := id) (m := m) (.inl hb))
  obtain ⟨W0, hW0⟩ : ∃ W0, W0 = ((w.alloc (.cells #[.slice (some ⟨b, o, none⟩) x.net.stops.length ca, .slice (some ⟨bl, ol, none⟩) x.net.lines.length cl, .slice (some ⟨bt, ot, none⟩) x.trips.length ct] 49)).alloc (.cells #[.slice none 0 0, .slice none 0 0, .slice none 0 0] 49)) := ⟨_, rfl⟩
  have H0 : Hid (TW w W0 x (some ⟨b, o, none⟩) ca (some ⟨bl, ol, none⟩) cl (some ⟨bt, ot, none⟩) ct) := Lib.hid (by rw [hW0]; exact TW.start hA hL hT)
  have htl : x.trips.length ≤ 1048576 := hx.trips
  clear hA hL hT
  go_enter Try.func55, Try.ntmps55
  go_upto_region 1 with fail
  rw [← hW0]
  clear hW0
  obtain ⟨c0_0, c0_1, c0_2⟩ := H0.out.box.cells
  have HG1 := Lib.hid (l5Good_any x (some ⟨b, o, none⟩) (some ⟨bl, ol, none⟩) (some ⟨bt, ot, none⟩) ca cl ct W0 H0.out.box.stops H0.out.box.lines H0.out.box.trips hx)
  go_wp2_with fail
  refine HG1.out.mono ?_
  rintro e w1 ⟨rfl, hb1⟩
  rw [hb]
  clear hb
  have H1 := Lib.hid (H0.out.call hb1)
  have hz1 := hb1.size
  clear hb1 c0_0 c0_1 c0_2
  obtain ⟨c1_0, c1_1, c1_2⟩ := H1.out.box.cells
  obtain ⟨t0, t1, t2⟩ := H1.out.res
  have f0 := H1.out.free 0
  have f1 := H1.out.free 1
  have f2 := H1.out.free 2
  go_wp2_with fail
  refine bodyPost_ret (v := .tuple #[.agg #[.slice none 0 0, .slice none 0 0, .slice none 0 0], .bool false]) (by simp [results, Try.results55, go_sem, t0, t1, t2]) rfl ?_
  refine retTt_eq HR.out (retTt_zero ?_)
  repeat' (refine Below.setCell ?_ (by simp) _)
  exact H1.out.bel
set_option maxRecDepth 100000 in
set_option maxHeartbeats 4000000 in
theorem specShift_no2 (x : TTD) (id m : Int) (b o ca bl ol cl bt ot ct : Nat) (w : World) (hA : StrsIn w (Zone.below w.heap.size) (some ⟨b, o, none⟩) x.net.stops) (hL : LinesIn w (Zone.below w.heap.size) (some ⟨bl, ol, none⟩) x.net.lines) (hT : I3sIn w (Zone.below w.heap.size) (some ⟨bt, ot, none⟩) x.trips) (hx : FitsT x) (hb : ttB x = true) (hj : idI x.trips id < 0) :
    Calls Try.prog 55 #[.agg #[.slice (some ⟨b, o, none⟩) x.net.stops.length ca, .slice (some ⟨bl, ol, none⟩) x.net.lines.length cl, .slice (some ⟨bt, ot, none⟩) x.trips.length ct], .int .i64 id, .int .i64 m] w (RetTt (shR x id m).1 (shR x id m).2 w) := by
  have HR := Lib.hid (shR_no (x := x) (id := id) (m := m) (.inr (.inl hj)))
  obtain ⟨W0, hW0⟩ : ∃ W0, W0 = ((w.alloc (.cells #[.slice (some ⟨b, o, none⟩) x.net.stops.length ca, .slice (some ⟨bl, ol, none⟩) x.net.lines.length cl, .slice (some ⟨bt, ot, none⟩) x.trips.length ct] 49)).alloc (.cells #[.slice none 0 0, .slice none 0 0, .slice none 0 0] 49)) := ⟨_, rfl⟩
  have H0 : Hid (TW w W0 x (some ⟨b, o, none⟩) ca (some ⟨bl, ol, none⟩) cl (some ⟨bt, ot, none⟩) ct) := Lib.hid (by rw [hW0]; exact TW.start hA hL hT)
  have htl : x.trips.length ≤ 1048576 := hx.trips
  clear hA hL hT
  go_enter Try.func55, Try.ntmps55
  go_upto_region 1 with fail
  rw [← hW0]
  clear hW0
  obtain ⟨c0_0, c0_1, c0_2⟩ := H0.out.box.cells
  have HG1 := Lib.hid (l5Good_any x (some ⟨b, o, none⟩) (some ⟨bl, ol, none⟩) (some ⟨bt, ot, none⟩) ca cl ct W0 H0.out.box.stops H0.out.box.lines H0.out.box.trips hx)
  go_wp2_with fail
  refine HG1.out.mono ?_
  rintro e w1 ⟨rfl, hb1⟩
  rw [hb]
  clear hb
  have H1 := Lib.hid (H0.out.call hb1)
  have hz1 := hb1.size
  clear hb1 c0_0 c0_1 c0_2
  obtain ⟨c1_0, c1_1, c1_2⟩ := H1.out.box.cells
  have HG2 := Lib.hid (l5Find_any x (some ⟨b, o, none⟩) (some ⟨bl, ol, none⟩) (some ⟨bt, ot, none⟩) ca cl ct id w1 H1.out.box.trips htl)
  go_wp2_with fail
  refine HG2.out.mono ?_
  rintro e w2 ⟨rfl, hb2⟩
  skip
  have H2 := Lib.hid (H1.out.call hb2)
  have hz2 := hb2.size
  clear hb2 c1_0 c1_1 c1_2
  obtain ⟨c2_0, c2_1, c2_2⟩ := H2.out.box.cells
  have hd : decide (idI x.trips id < 0) = true := decide_eq_true hj
  obtain ⟨t0, t1, t2⟩ := H2.out.res
  have f0 := H2.out.free 0
  have f1 := H2.out.free 1
  have f2 := H2.out.free 2
  go_wp2_with fail
  refine bodyPost_ret (v := .tuple #[.agg #[.slice none 0 0, .slice none 0 0, .slice none 0 0], .bool false]) (by simp [results, Try.results55, go_sem, t0, t1, t2]) rfl ?_
  refine retTt_eq HR.out (retTt_zero ?_)
  repeat' (refine Below.setCell ?_ (by simp) _)
  exact H2.out.bel
set_option maxRecDepth 100000 in
set_option maxHeartbeats 4000000 in
theorem specShift_no3 (x : TTD) (id m : Int) (b o ca bl ol cl bt ot ct : Nat) (w : World) (hA : StrsIn w (Zone.below w.heap.size) (some ⟨b, o, none⟩) x.net.stops) (hL : LinesIn w (Zone.below w.heap.size) (some ⟨bl, ol, none⟩) x.net.lines) (hT : I3sIn w (Zone.below w.heap.size) (some ⟨bt, ot, none⟩) x.trips) (hx : FitsT x) (hb : ttB x = true) (hj : 0 ≤ idI x.trips id) (hi : inB m (-1799) 1799 = false) :
    Calls Try.prog 55 #[.agg #[.slice (some ⟨b, o, none⟩) x.net.stops.length ca, .slice (some ⟨bl, ol, none⟩) x.net.lines.length cl, .slice (some ⟨bt, ot, none⟩) x.trips.length ct], .int .i64 id, .int .i64 m] w (RetTt (shR x id m).1 (shR x id m).2 w) := by
  have HR := Lib.hid (shR_no (x := x) (id := id) (m := m) (.inr (.inr (.inl hi))))
  have HI := Lib.hid hi
  clear hi
  obtain ⟨W0, hW0⟩ : ∃ W0, W0 = ((w.alloc (.cells #[.slice (some ⟨b, o, none⟩) x.net.stops.length ca, .slice (some ⟨bl, ol, none⟩) x.net.lines.length cl, .slice (some ⟨bt, ot, none⟩) x.trips.length ct] 49)).alloc (.cells #[.slice none 0 0, .slice none 0 0, .slice none 0 0] 49)) := ⟨_, rfl⟩
  have H0 : Hid (TW w W0 x (some ⟨b, o, none⟩) ca (some ⟨bl, ol, none⟩) cl (some ⟨bt, ot, none⟩) ct) := Lib.hid (by rw [hW0]; exact TW.start hA hL hT)
  have htl : x.trips.length ≤ 1048576 := hx.trips
  clear hA hL hT
  go_enter Try.func55, Try.ntmps55
  go_upto_region 1 with fail
  rw [← hW0]
  clear hW0
  obtain ⟨c0_0, c0_1, c0_2⟩ := H0.out.box.cells
  have HG1 := Lib.hid (l5Good_any x (some ⟨b, o, none⟩) (some ⟨bl, ol, none⟩) (some ⟨bt, ot, none⟩) ca cl ct W0 H0.out.box.stops H0.out.box.lines H0.out.box.trips hx)
  go_wp2_with fail
  refine HG1.out.mono ?_
  rintro e w1 ⟨rfl, hb1⟩
  rw [hb]
  clear hb
  have H1 := Lib.hid (H0.out.call hb1)
  have hz1 := hb1.size
  clear hb1 c0_0 c0_1 c0_2
  obtain ⟨c1_0, c1_1, c1_2⟩ := H1.out.box.cells
  have HG2 := Lib.hid (l5Find_any x (some ⟨b, o, none⟩) (some ⟨bl, ol, none⟩) (some ⟨bt, ot, none⟩) ca cl ct id w1 H1.out.box.trips htl)
  go_wp2_with fail
  refine HG2.out.mono ?_
  rintro e w2 ⟨rfl, hb2⟩
  skip
  have H2 := Lib.hid (H1.out.call hb2)
  have hz2 := hb2.size
  clear hb2 c1_0 c1_1 c1_2
  obtain ⟨c2_0, c2_1, c2_2⟩ := H2.out.box.cells
  have hd : decide (idI x.trips id < 0) = false := decide_eq_false (by omega)
  obtain ⟨t0, t1, t2⟩ := H2.out.res
  have f0 := H2.out.free 0
  have f1 := H2.out.free 1
  have f2 := H2.out.free 2
  go_wp2_with (go_at_call 69; refine (l1In_any _ _ _ _).mono ?_; rintro e w9 ⟨rfl, rfl⟩; rw [HI.out])
  refine bodyPost_ret (v := .tuple #[.agg #[.slice none 0 0, .slice none 0 0, .slice none 0 0], .bool false]) (by simp [results, Try.results55, go_sem, t0, t1, t2]) rfl ?_
  refine retTt_eq HR.out (retTt_zero ?_)
  repeat' (refine Below.setCell ?_ (by simp) _)
  exact H2.out.bel
set_option maxRecDepth 100000 in
set_option maxHeartbeats 4000000 in
theorem specShift_go (x : TTD) (id m : Int) (b o ca bl ol cl bt ot ct : Nat) (w : World) (hA : StrsIn w (Zone.below w.heap.size) (some ⟨b, o, none⟩) x.net.stops) (hL : LinesIn w (Zone.below w.heap.size) (some ⟨bl, ol, none⟩) x.net.lines) (hT : I3sIn w (Zone.below w.heap.size) (some ⟨bt, ot, none⟩) x.trips) (hx : FitsT x) (hb : ttB x = true) (hi : inB m (-1799) 1799 = true) (hj : 0 ≤ idI x.trips id) :
    Calls Try.prog 55 #[.agg #[.slice (some ⟨b, o, none⟩) x.net.stops.length ca, .slice (some ⟨bl, ol, none⟩) x.net.lines.length cl, .slice (some ⟨bt, ot, none⟩) x.trips.length ct], .int .i64 id, .int .i64 m] w (RetTt (shR x id m).1 (shR x id m).2 w) := by
  obtain ⟨k, hk, hkk⟩ := idI_at hj
  have HX := Lib.hid (netX_of (ttB_net hb))
  have HB := Lib.hid hb
  have HI := Lib.hid hi
  have HJ := Lib.hid hj
  have hst := trip_start hb hk
  have hmb := inB_iff.mp hi
  have HKK := Lib.hid hkk
  clear hi hj hkk
  obtain ⟨W0, hW0⟩ : ∃ W0, W0 = ((w.alloc (.cells #[.slice (some ⟨b, o, none⟩) x.net.stops.length ca, .slice (some ⟨bl, ol, none⟩) x.net.lines.length cl, .slice (some ⟨bt, ot, none⟩) x.trips.length ct] 49)).alloc (.cells #[.slice none 0 0, .slice none 0 0, .slice none 0 0] 49)) := ⟨_, rfl⟩
  have H0 : Hid (TW w W0 x (some ⟨b, o, none⟩) ca (some ⟨bl, ol, none⟩) cl (some ⟨bt, ot, none⟩) ct) := Lib.hid (by rw [hW0]; exact TW.start hA hL hT)
  have htl : x.trips.length ≤ 1048576 := hx.trips
  clear hA hL hT
  go_enter Try.func55, Try.ntmps55
  go_upto_region 1 with fail
  rw [← hW0]
  clear hW0
  obtain ⟨c0_0, c0_1, c0_2⟩ := H0.out.box.cells
  have HG1 := Lib.hid (l5Good_any x (some ⟨b, o, none⟩) (some ⟨bl, ol, none⟩) (some ⟨bt, ot, none⟩) ca cl ct W0 H0.out.box.stops H0.out.box.lines H0.out.box.trips hx)
  go_wp2_with fail
  refine HG1.out.mono ?_
  rintro e w1 ⟨rfl, hb1⟩
  rw [hb]
  clear hb
  have H1 := Lib.hid (H0.out.call hb1)
  have hz1 := hb1.size
  clear hb1 c0_0 c0_1 c0_2
  obtain ⟨c1_0, c1_1, c1_2⟩ := H1.out.box.cells
  have HG2 := Lib.hid (l5Find_any x (some ⟨b, o, none⟩) (some ⟨bl, ol, none⟩) (some ⟨bt, ot, none⟩) ca cl ct id w1 H1.out.box.trips htl)
  go_wp2_with fail
  refine HG2.out.mono ?_
  rintro e w2 ⟨rfl, hb2⟩
  rw [HKK.out]
  have H2 := Lib.hid (H1.out.call hb2)
  have hz2 := hb2.size
  clear hb2 c1_0 c1_1 c1_2
  obtain ⟨c2_0, c2_1, c2_2⟩ := H2.out.box.cells
  have hd : decide ((k : Int) < 0) = false := decide_eq_false (by omega)
  have HG3 := Lib.hid (l5Own_any x b o ca bl ol cl bt ot ct w2 H2.out.box.stops H2.out.box.lines H2.out.box.trips hx HX.out)
  go_wp2_with (go_at_call 69; refine (l1In_any _ _ _ _).mono ?_; rintro e w9 ⟨rfl, rfl⟩; rw [HI.out])
  refine HG3.out.mono ?_
  intro e w3 hr
  obtain ⟨gs, ks, g, kl, p, r, gt, kt, rfl, hn, hot, hb3⟩ := hr.n
  have H3 := Lib.hid (H2.out.call hb3)
  have hz3 := hb3.size
  have HN3 := Lib.hid hn
  have HO3 := Lib.hid hot
  clear hb3 hr hn hot c2_0 c2_1 c2_2
  go_upto_region 4 with fail
  obtain ⟨W4, hW4⟩ : ∃ W4, W4 = (w3.alloc (.cells #[.slice (some ⟨gs, 0, none⟩) x.net.stops.length ks, .slice (some ⟨g, 0, none⟩) x.net.lines.length kl, .slice (some ⟨gt, 0, none⟩) x.trips.length kt] 49)) := ⟨_, rfl⟩
  rw [← hW4]
  have H4 : Hid (TW w W4 x (some ⟨b, o, none⟩) ca (some ⟨bl, ol, none⟩) cl (some ⟨bt, ot, none⟩) ct) := Lib.hid (by rw [hW4]; exact H3.out.alloc _)
  have HN4 : Hid (TtN W4 w2.heap.size x gs g gt p r) := Lib.hid (by rw [hW4]; exact HN3.out.alloc _)
  have hz4 : w3.heap.size < W4.heap.size := by rw [hW4]; simp
  have b0 : W4.cell? ⟨w3.heap.size, 0, none⟩ = some (.slice (some ⟨gs, 0, none⟩) x.net.stops.length ks) := by rw [hW4]; go_simp
  have b1 : W4.cell? ⟨w3.heap.size, 1, none⟩ = some (.slice (some ⟨g, 0, none⟩) x.net.lines.length kl) := by rw [hW4]; go_simp
  have b2 : W4.cell? ⟨w3.heap.size, 2, none⟩ = some (.slice (some ⟨gt, 0, none⟩) x.trips.length kt) := by rw [hW4]; go_simp
  have HB4 := Lib.hid (And.intro b0 (And.intro b1 b2))
  have hgt0 := HN3.out.gt1
  clear hW4 b0 b1 b2
  obtain ⟨c4_0, c4_1, c4_2⟩ := H4.out.box.cells
  have HG5 := Lib.hid (l5Find_any x (some ⟨b, o, none⟩) (some ⟨bl, ol, none⟩) (some ⟨bt, ot, none⟩) ca cl ct id W4 H4.out.box.trips htl)
  go_wp2_with fail
  refine HG5.out.mono ?_
  rintro e w5 ⟨rfl, hb5⟩
  rw [HKK.out]
  have H5 := Lib.hid (H4.out.call hb5)
  have HN5 := Lib.hid (HN4.out.call hb5)
  have hz5 := hb5.size
  have s5 : Same W4 w5 w3.heap.size := Same.of_below hb5 hz4
  have b0 := (s5 0).1.trans HB4.out.1
  have b1 := (s5 1).1.trans HB4.out.2.1
  have b2 := (s5 2).1.trans HB4.out.2.2
  obtain ⟨_, d0, d1, d2⟩ := HN5.out.trip.addr hk
  rw [Nat.zero_add] at d0 d1 d2
  have hik : (k : Int) < (x.trips.length : Int) := by omega
  have hk0 : ¬ ((k : Int) < 0) := by omega
  have hwr : IntKind.i64.wrap ((nth3 x.trips k).c + m) = (nth3 x.trips k).c + m := IntWalk.i64_in _ (by omega)
  have HBB := Lib.hid (And.intro b0 (And.intro b1 b2))
  clear hb5 s5 c4_0 c4_1 c4_2
  go_upto_region 7 with fail
  obtain ⟨W6, hW6⟩ : ∃ W6, W6 = (w5.alloc (.cells #[.int .i64 (nth3 x.trips k).a, .int .i64 (nth3 x.trips k).b, .int .i64 ((nth3 x.trips k).c + m)] 94)) := ⟨_, rfl⟩
  rw [← hW6]
  have H6 : Hid (TW w W6 x (some ⟨b, o, none⟩) ca (some ⟨bl, ol, none⟩) cl (some ⟨bt, ot, none⟩) ct) := Lib.hid (by rw [hW6]; exact H5.out.alloc _)
  have HN6 : Hid (TtN W6 w2.heap.size x gs g gt p r) := Lib.hid (by rw [hW6]; exact HN5.out.alloc _)
  have hz6 : w5.heap.size < W6.heap.size := by rw [hW6]; simp
  have s6 : Same w5 W6 w3.heap.size := by rw [hW6]; exact Same.of_below ((Below.refl _ _).alloc (Nat.le_refl _) _) (by omega)
  have e0 : W6.cell? ⟨w5.heap.size, 0, none⟩ = some (.int .i64 (nth3 x.trips k).a) := by rw [hW6]; go_simp
  have e1 : W6.cell? ⟨w5.heap.size, 1, none⟩ = some (.int .i64 (nth3 x.trips k).b) := by rw [hW6]; go_simp
  have e2 : W6.cell? ⟨w5.heap.size, 2, none⟩ = some (.int .i64 ((nth3 x.trips k).c + m)) := by rw [hW6]; go_simp
  have b0' := (s6 0).1.trans HBB.out.1
  have b1' := (s6 1).1.trans HBB.out.2.1
  have b2' := (s6 2).1.trans HBB.out.2.2
  clear hW6 b0 b1 b2 d0 d1 d2 s6
  obtain ⟨_, d0, d1, d2⟩ := HN6.out.trip.addr hk
  rw [Nat.zero_add] at d0 d1 d2
  have hfz : ∀ j, W6.frozen? ⟨gt, j, none⟩ = false := i3_free HN6.out.trip (by omega)
  have q0 := hfz (k * 3)
  have q1 := hfz (k * 3 + 1)
  have q2 := hfz (k * 3 + 2)
  clear hfz
  go_upto_region 8 with fail
  obtain ⟨W7, hW7⟩ : ∃ W7, W7 = (((W6.setCell ⟨gt, k * 3, none⟩ (.int .i64 (nth3 x.trips k).a)).setCell ⟨gt, k * 3 + 1, none⟩ (.int .i64 (nth3 x.trips k).b)).setCell ⟨gt, k * 3 + 2, none⟩ (.int .i64 ((nth3 x.trips k).c + m))) := ⟨_, rfl⟩
  rw [← hW7]
  have hlo : w.heap.size + 1 < w2.heap.size := H2.out.lt
  have hgw := HN6.out.gt0
  have HX5 : Hid (shX x id m = withTr x (shL x.trips k m)) := Lib.hid (by unfold shX; rw [HKK.out, Int.toNat_natCast])
  have hsame : ∀ c, c ≠ gt → Same W6 W7 c := fun c hc => by
    rw [hW7]
    exact ((Same.set W6 (p := ⟨gt, k * 3, none⟩) hc _).trans (Same.set _ (p := ⟨gt, k * 3 + 1, none⟩) hc _)).trans (Same.set _ (p := ⟨gt, k * 3 + 2, none⟩) hc _)
  have hz7 : W6.heap.size = W7.heap.size := by rw [hW7]; simp only [size_set]
  have HN7 : Hid (TtN W7 w2.heap.size (shX x id m) gs g gt p r) := Lib.hid (by
    rw [HX5.out]
    refine HN6.out.trips (fun c hc _ => hsame c hc) (by omega) ?_
    rw [hW7]
    exact set3_in (t := ⟨(nth3 x.trips k).a, (nth3 x.trips k).b, (nth3 x.trips k).c + m⟩) HN6.out.trip hk)
  have H7 : Hid (TW w W7 x (some ⟨b, o, none⟩) ca (some ⟨bl, ol, none⟩) cl (some ⟨bt, ot, none⟩) ct) := Lib.hid (by
    rw [hW7]
    exact H6.out.kept ((((Below.refl w2.heap.size W6).setCell (p := ⟨gt, k * 3, none⟩) hgw _).setCell (p := ⟨gt, k * 3 + 1, none⟩) hgw _).setCell (p := ⟨gt, k * 3 + 2, none⟩) hgw _) hlo)
  have hgb : gt ≠ w3.heap.size := by omega
  have a0 := (hsame _ (Ne.symm hgb) 0).1.trans b0'
  have a1 := (hsame _ (Ne.symm hgb) 1).1.trans b1'
  have a2 := (hsame _ (Ne.symm hgb) 2).1.trans b2'
  have HA7 := Lib.hid (And.intro a0 (And.intro a1 a2))
  clear hW7 b0' b1' b2' d0 d1 d2 e0 e1 e2 q0 q1 q2 hsame hwr
  have HL5 : Hid ((shX x id m).trips.length = x.trips.length) := Lib.hid (by rw [HX5.out]; exact shL_len x.trips k m)
  have HF5 : Hid (FitsT (shX x id m)) := Lib.hid (by rw [HX5.out]; exact withTr_fits hx (by rw [shL_len]; exact htl))
  have hq := l5Good_any (shX x id m) (some ⟨gs, 0, none⟩) (some ⟨g, 0, none⟩) (some ⟨gt, 0, none⟩) ks kl kt W7 HN7.out.stopsIn HN7.out.linesIn HN7.out.tripsIn HF5.out
  rw [HL5.out, show (shX x id m).net = x.net from rfl] at hq
  have HG8 := Lib.hid hq
  clear hq
  go_wp2_with fail
  refine HG8.out.mono ?_
  rintro e w8 ⟨rfl, hb8⟩
  have H8 := Lib.hid (H7.out.call hb8)
  have HN8 := Lib.hid (HN7.out.call hb8)
  have s8 : Same W7 w8 w3.heap.size := Same.of_below hb8 (by omega)
  have k0 := (s8 0).1.trans HA7.out.1
  have k1 := (s8 1).1.trans HA7.out.2.1
  have k2 := (s8 2).1.trans HA7.out.2.2
  clear hb8 s8 a0 a1 a2
  obtain ⟨t0, t1, t2⟩ := H8.out.res
  have f0 := H8.out.free 0
  have f1 := H8.out.free 1
  have f2 := H8.out.free 2
  cases hb9 : ttB (shX x id m)
  · have HR := Lib.hid (shR_no (x := x) (id := id) (m := m) (.inr (.inr (.inr hb9))))
    clear hb9
    go_wp2_with fail
    refine bodyPost_ret (v := .tuple #[.agg #[.slice none 0 0, .slice none 0 0, .slice none 0 0], .bool false]) (by simp [results, Try.results55, go_sem, t0, t1, t2]) rfl ?_
    refine retTt_eq HR.out (retTt_zero ?_)
    repeat' (refine Below.setCell ?_ (by simp) _)
    exact H8.out.bel
  · have HR := Lib.hid (shR_yes (x := x) (id := id) (m := m) HB.out HJ.out HI.out hb9)
    clear hb9
    go_wp2_with fail
    refine bodyPost_ret (v := .tuple #[.agg #[.slice (some ⟨gs, 0, none⟩) x.net.stops.length ks, .slice (some ⟨g, 0, none⟩) x.net.lines.length kl, .slice (some ⟨gt, 0, none⟩) x.trips.length kt], .bool true]) (by simp [results, Try.results55, go_sem, t0, t1, t2]) rfl ?_
    refine retTt_eq HR.out ⟨some ⟨gs, 0, none⟩, ks, some ⟨g, 0, none⟩, kl, some ⟨gt, 0, none⟩, kt, ?_, ?_, ?_⟩
    · rw [HL5.out]; rfl
    · refine (TtN.lower (lo := w2.heap.size) ?_ (by omega)).tto (gs := gs) (g := g) (gt := gt) (p := p) (r := r)
      repeat' (refine TtN.set ?_ (by show w.heap.size + 1 < w2.heap.size; omega) _)
      exact HN8.out
    · repeat' (refine Below.setCell ?_ (by simp) _)
      exact H8.out.bel
set_option maxRecDepth 100000 in
set_option maxHeartbeats 4000000 in
theorem implShiftTrip_any (x : TTD) (id m : Int) (b o ca bl ol cl bt ot ct : Nat) (w : World) (hA : StrsIn w (Zone.below w.heap.size) (some ⟨b, o, none⟩) x.net.stops) (hL : LinesIn w (Zone.below w.heap.size) (some ⟨bl, ol, none⟩) x.net.lines) (hT : I3sIn w (Zone.below w.heap.size) (some ⟨bt, ot, none⟩) x.trips) (hx : FitsT x) :
    Calls Try.prog 56 #[.agg #[.slice (some ⟨b, o, none⟩) x.net.stops.length ca, .slice (some ⟨bl, ol, none⟩) x.net.lines.length cl, .slice (some ⟨bt, ot, none⟩) x.trips.length ct], .int .i64 id, .int .i64 m] w (RetTt (shR x id m).1 (shR x id m).2 w) := by
  cases hb : ttB x
  · exact implShift_no1 x id m b o ca bl ol cl bt ot ct w hA hL hT hx hb
  · cases hi : inB m (-1799) 1799
    · exact implShift_no2 x id m b o ca bl ol cl bt ot ct w hA hL hT hx hb hi
    · by_cases hj : idI x.trips id < 0
      · exact implShift_no3 x id m b o ca bl ol cl bt ot ct w hA hL hT hx hb hi hj
      · exact implShift_go x id m b o ca bl ol cl bt ot ct w hA hL hT hx hb hi (by omega)
set_option maxRecDepth 100000 in
set_option maxHeartbeats 4000000 in
theorem specShiftTrip_any (x : TTD) (id m : Int) (b o ca bl ol cl bt ot ct : Nat) (w : World) (hA : StrsIn w (Zone.below w.heap.size) (some ⟨b, o, none⟩) x.net.stops) (hL : LinesIn w (Zone.below w.heap.size) (some ⟨bl, ol, none⟩) x.net.lines) (hT : I3sIn w (Zone.below w.heap.size) (some ⟨bt, ot, none⟩) x.trips) (hx : FitsT x) :
    Calls Try.prog 55 #[.agg #[.slice (some ⟨b, o, none⟩) x.net.stops.length ca, .slice (some ⟨bl, ol, none⟩) x.net.lines.length cl, .slice (some ⟨bt, ot, none⟩) x.trips.length ct], .int .i64 id, .int .i64 m] w (RetTt (shR x id m).1 (shR x id m).2 w) := by
  cases hb : ttB x
  · exact specShift_no1 x id m b o ca bl ol cl bt ot ct w hA hL hT hx hb
  · by_cases hj : idI x.trips id < 0
    · exact specShift_no2 x id m b o ca bl ol cl bt ot ct w hA hL hT hx hb hj
    · cases hi : inB m (-1799) 1799
      · exact specShift_no3 x id m b o ca bl ol cl bt ot ct w hA hL hT hx hb (by omega) hi
      · exact specShift_go x id m b o ca bl ol cl bt ot ct w hA hL hT hx hb hi (by omega)
end Go.Proofs.Ytambgommeannnaa
