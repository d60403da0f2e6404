/- AddTrip: both contracts. -/
import Derived.Test.YtambgommeannnaaAdt
import Derived.Deep.CutBlock
namespace Go.Proofs.Ytambgommeannnaa
open Go.ChangeShapes Go.WideShapes Go.ChangeAt Go.RowKit Go.PlainAid
set_option linter.unusedVariables false
set_option linter.unusedSimpArgs false

set_option maxRecDepth 100000 in
set_option maxHeartbeats 4000000 in
theorem implAdd_no1 (x : TTD) (y : I3) (b o ca bl ol cl bt ot ct : Nat) (w : World) (hA : StrsIn w (Zone.below w.heap.size) (some ⟨b, o, none⟩) x.net.stops) (hL : LinesIn w (Zone.below w.heap.size) (some ⟨bl, ol, none⟩) x.net.lines) (hT : I3sIn w (Zone.below w.heap.size) (some ⟨bt, ot, none⟩) x.trips) (hx : FitsT x) (hb : ttB x = false) :
    Calls Try.prog 65 #[.agg #[.slice (some ⟨b, o, none⟩) x.net.stops.length ca, .slice (some ⟨bl, ol, none⟩) x.net.lines.length cl, .slice (some ⟨bt, ot, none⟩) x.trips.length ct], .agg #[.int .i64 y.a, .int .i64 y.b, .int .i64 y.c]] w (RetTt (adR x y).1 (adR x y).2 w) := by
  have HR := Lib.hid (adR_no (x := x) (t := y) (.inl hb))
  obtain ⟨W0, hW0⟩ : ∃ W0, W0 = (((w.alloc (.cells #[.slice (some ⟨b, o, none⟩) x.net.stops.length ca, .slice (some ⟨bl, ol, none⟩) x.net.lines.length cl, .slice (some ⟨bt, ot, none⟩) x.trips.length ct] 49)).alloc (.cells #[.int .i64 y.a, .int .i64 y.b, .int .i64 y.c] 94)).alloc (.cells #[.slice none 0 0, .slice none 0 0, .slice none 0 0] 49)) := ⟨_, rfl⟩
  have H0 : Hid (TU w W0 x (some ⟨b, o, none⟩) ca (some ⟨bl, ol, none⟩) cl (some ⟨bt, ot, none⟩) ct y) := Lib.hid (by rw [hW0]; exact TU.start hA hL hT)
  have htl : x.trips.length ≤ 1048576 := hx.trips
  clear hA hL hT
  go_enter Try.func65, Try.ntmps65
  go_upto_region 1 with fail
  rw [← hW0]
  clear hW0
  obtain ⟨c0_0, c0_1, c0_2⟩ := H0.out.box.cells
  obtain ⟨y0, y1, y2⟩ := H0.out.tr
  have HG1 := Lib.hid (isValidTimetable_any x (some ⟨b, o, none⟩) (some ⟨bl, ol, none⟩) (some ⟨bt, ot, none⟩) ca cl ct W0 H0.out.box.stops H0.out.box.lines H0.out.box.trips hx)
  go_wp2_with fail
  refine HG1.out.mono ?_
  rintro e w1 ⟨rfl, hb1⟩
  rw [hb]
  clear hb
  have H1 := Lib.hid (H0.out.call hb1)
  have hz1 := hb1.size
  clear hb1 c0_0 c0_1 c0_2
  obtain ⟨c1_0, c1_1, c1_2⟩ := H1.out.box.cells
  obtain ⟨t0, t1, t2⟩ := H1.out.res
  have f0 := H1.out.free 0
  have f1 := H1.out.free 1
  have f2 := H1.out.free 2
  go_wp2_with fail
  refine bodyPost_ret (v := .tuple #[.agg #[.slice none 0 0, .slice none 0 0, .slice none 0 0], .bool false]) (by simp [results, Try.results65, go_sem, t0, t1, t2]) rfl ?_
  refine retTt_eq HR.out (retTt_zero ?_)
  repeat' (refine Below.setCell ?_ (by simp <;> omega) _)
  exact H1.out.bel
set_option maxRecDepth 100000 in
set_option maxHeartbeats 4000000 in
theorem implAdd_no2 (x : TTD) (y : I3) (b o ca bl ol cl bt ot ct : Nat) (w : World) (hA : StrsIn w (Zone.below w.heap.size) (some ⟨b, o, none⟩) x.net.stops) (hL : LinesIn w (Zone.below w.heap.size) (some ⟨bl, ol, none⟩) x.net.lines) (hT : I3sIn w (Zone.below w.heap.size) (some ⟨bt, ot, none⟩) x.trips) (hx : FitsT x) (hb : ttB x = true) (hy : ttB (withTr x (inL x.trips y)) = false) :
    Calls Try.prog 65 #[.agg #[.slice (some ⟨b, o, none⟩) x.net.stops.length ca, .slice (some ⟨bl, ol, none⟩) x.net.lines.length cl, .slice (some ⟨bt, ot, none⟩) x.trips.length ct], .agg #[.int .i64 y.a, .int .i64 y.b, .int .i64 y.c]] w (RetTt (adR x y).1 (adR x y).2 w) := by
  have HR := Lib.hid (adR_no (x := x) (t := y) (.inr hy))
  have HX := Lib.hid (netX_of (ttB_net hb))
  have HF : Hid (FitsT (withTr x (inL x.trips y))) := Lib.hid (withTr_fits hx (by rw [inL_len]; have := ttB_trips hb; omega))
  obtain ⟨W0, hW0⟩ : ∃ W0, W0 = (((w.alloc (.cells #[.slice (some ⟨b, o, none⟩) x.net.stops.length ca, .slice (some ⟨bl, ol, none⟩) x.net.lines.length cl, .slice (some ⟨bt, ot, none⟩) x.trips.length ct] 49)).alloc (.cells #[.int .i64 y.a, .int .i64 y.b, .int .i64 y.c] 94)).alloc (.cells #[.slice none 0 0, .slice none 0 0, .slice none 0 0] 49)) := ⟨_, rfl⟩
  have H0 : Hid (TU w W0 x (some ⟨b, o, none⟩) ca (some ⟨bl, ol, none⟩) cl (some ⟨bt, ot, none⟩) ct y) := Lib.hid (by rw [hW0]; exact TU.start hA hL hT)
  have htl : x.trips.length ≤ 1048576 := hx.trips
  clear hA hL hT
  go_enter Try.func65, Try.ntmps65
  go_upto_region 1 with fail
  rw [← hW0]
  clear hW0
  obtain ⟨c0_0, c0_1, c0_2⟩ := H0.out.box.cells
  obtain ⟨y0, y1, y2⟩ := H0.out.tr
  have HG1 := Lib.hid (isValidTimetable_any x (some ⟨b, o, none⟩) (some ⟨bl, ol, none⟩) (some ⟨bt, ot, none⟩) ca cl ct W0 H0.out.box.stops H0.out.box.lines H0.out.box.trips hx)
  go_wp2_with fail
  refine HG1.out.mono ?_
  rintro e w1 ⟨rfl, hb1⟩
  rw [hb]
  clear hb
  have H1 := Lib.hid (H0.out.call hb1)
  have hz1 := hb1.size
  clear hb1 c0_0 c0_1 c0_2
  obtain ⟨c1_0, c1_1, c1_2⟩ := H1.out.box.cells
  clear y0 y1 y2
  obtain ⟨y0, y1, y2⟩ := H1.out.tr
  have HG2 := Lib.hid (withTrip_any x y b o ca bl ol cl bt ot ct w1 H1.out.box.stops H1.out.box.lines H1.out.box.trips hx HX.out)
  go_wp2_with fail
  refine HG2.out.mono ?_
  rintro e w2 ⟨gs, ks, g, kl, p, r, gt, kt, rfl, hn, hb2⟩
  have H2 := Lib.hid (H1.out.call hb2)
  have HN2 := Lib.hid hn
  have hz2 := hb2.size
  have hlt1 := H1.out.lt
  clear hn hb2 c1_0 c1_1 c1_2 y0 y1 y2
  obtain ⟨c2_0, c2_1, c2_2⟩ := H2.out.box.cells
  obtain ⟨y0, y1, y2⟩ := H2.out.tr
  have hq := checked_no (withTr x (inL x.trips y)) (some ⟨gs, 0, none⟩) (some ⟨g, 0, none⟩) (some ⟨gt, 0, none⟩) ks kl kt w2 HN2.out.stopsIn HN2.out.linesIn HN2.out.tripsIn HF.out hy
  simp only [withTr] at hq
  have HG3 := Lib.hid hq
  clear hq
  go_wp2_with fail
  refine HG3.out.mono ?_
  rintro e w3 ⟨rfl, hb3⟩
  have H3 := Lib.hid (H2.out.call hb3)
  have HN3 := Lib.hid (HN2.out.call hb3)
  have hz3 := hb3.size
  clear hb3 c2_0 c2_1 c2_2 y0 y1 y2
  obtain ⟨c3_0, c3_1, c3_2⟩ := H3.out.box.cells
  obtain ⟨y0, y1, y2⟩ := H3.out.tr
  obtain ⟨t0, t1, t2⟩ := H3.out.res
  have f0 := H3.out.free 0
  have f1 := H3.out.free 1
  have f2 := H3.out.free 2
  go_wp2_with fail
  refine bodyPost_ret (v := .tuple #[.agg #[.slice none 0 0, .slice none 0 0, .slice none 0 0], .bool false]) (by simp [results, Try.results65, go_sem, t0, t1, t2]) rfl ?_
  refine retTt_eq HR.out (retTt_zero ?_)
  repeat' (refine Below.setCell ?_ (by simp <;> omega) _)
  exact H3.out.bel
set_option maxRecDepth 100000 in
set_option maxHeartbeats 4000000 in
theorem implAdd_go (x : TTD) (y : I3) (b o ca bl ol cl bt ot ct : Nat) (w : World) (hA : StrsIn w (Zone.below w.heap.size) (some ⟨b, o, none⟩) x.net.stops) (hL : LinesIn w (Zone.below w.heap.size) (some ⟨bl, ol, none⟩) x.net.lines) (hT : I3sIn w (Zone.below w.heap.size) (some ⟨bt, ot, none⟩) x.trips) (hx : FitsT x) (hb : ttB x = true) (hy : ttB (withTr x (inL x.trips y)) = true) :
    Calls Try.prog 65 #[.agg #[.slice (some ⟨b, o, none⟩) x.net.stops.length ca, .slice (some ⟨bl, ol, none⟩) x.net.lines.length cl, .slice (some ⟨bt, ot, none⟩) x.trips.length ct], .agg #[.int .i64 y.a, .int .i64 y.b, .int .i64 y.c]] w (RetTt (adR x y).1 (adR x y).2 w) := by
  have HR : Hid (adR x y = ((withTr x (inL x.trips y)), true)) := Lib.hid (adR_yes hb hy)
  have HX := Lib.hid (netX_of (ttB_net hb))
  have HF : Hid (FitsT (withTr x (inL x.trips y))) := Lib.hid (withTr_fits hx (by rw [inL_len]; have := ttB_trips hb; omega))
  obtain ⟨W0, hW0⟩ : ∃ W0, W0 = (((w.alloc (.cells #[.slice (some ⟨b, o, none⟩) x.net.stops.length ca, .slice (some ⟨bl, ol, none⟩) x.net.lines.length cl, .slice (some ⟨bt, ot, none⟩) x.trips.length ct] 49)).alloc (.cells #[.int .i64 y.a, .int .i64 y.b, .int .i64 y.c] 94)).alloc (.cells #[.slice none 0 0, .slice none 0 0, .slice none 0 0] 49)) := ⟨_, rfl⟩
  have H0 : Hid (TU w W0 x (some ⟨b, o, none⟩) ca (some ⟨bl, ol, none⟩) cl (some ⟨bt, ot, none⟩) ct y) := Lib.hid (by rw [hW0]; exact TU.start hA hL hT)
  have htl : x.trips.length ≤ 1048576 := hx.trips
  clear hA hL hT
  go_enter Try.func65, Try.ntmps65
  go_upto_region 1 with fail
  rw [← hW0]
  clear hW0
  obtain ⟨c0_0, c0_1, c0_2⟩ := H0.out.box.cells
  obtain ⟨y0, y1, y2⟩ := H0.out.tr
  have HG1 := Lib.hid (isValidTimetable_any x (some ⟨b, o, none⟩) (some ⟨bl, ol, none⟩) (some ⟨bt, ot, none⟩) ca cl ct W0 H0.out.box.stops H0.out.box.lines H0.out.box.trips hx)
  go_wp2_with fail
  refine HG1.out.mono ?_
  rintro e w1 ⟨rfl, hb1⟩
  rw [hb]
  clear hb
  have H1 := Lib.hid (H0.out.call hb1)
  have hz1 := hb1.size
  clear hb1 c0_0 c0_1 c0_2
  obtain ⟨c1_0, c1_1, c1_2⟩ := H1.out.box.cells
  clear y0 y1 y2
  obtain ⟨y0, y1, y2⟩ := H1.out.tr
  have HG2 := Lib.hid (withTrip_any x y b o ca bl ol cl bt ot ct w1 H1.out.box.stops H1.out.box.lines H1.out.box.trips hx HX.out)
  go_wp2_with fail
  refine HG2.out.mono ?_
  rintro e w2 ⟨gs, ks, g, kl, p, r, gt, kt, rfl, hn, hb2⟩
  have H2 := Lib.hid (H1.out.call hb2)
  have HN2 := Lib.hid hn
  have hz2 := hb2.size
  have hlt1 := H1.out.lt
  clear hn hb2 c1_0 c1_1 c1_2 y0 y1 y2
  obtain ⟨c2_0, c2_1, c2_2⟩ := H2.out.box.cells
  obtain ⟨y0, y1, y2⟩ := H2.out.tr
  have hq := checked_yes (withTr x (inL x.trips y)) (some ⟨gs, 0, none⟩) (some ⟨g, 0, none⟩) (some ⟨gt, 0, none⟩) ks kl kt w2 HN2.out.stopsIn HN2.out.linesIn HN2.out.tripsIn HF.out hy
  simp only [withTr] at hq
  have HG3 := Lib.hid hq
  clear hq
  go_wp2_with fail
  refine HG3.out.mono ?_
  rintro e w3 ⟨rfl, hb3⟩
  have H3 := Lib.hid (H2.out.call hb3)
  have HN3 := Lib.hid (HN2.out.call hb3)
  have hz3 := hb3.size
  clear hb3 c2_0 c2_1 c2_2 y0 y1 y2
  obtain ⟨c3_0, c3_1, c3_2⟩ := H3.out.box.cells
  obtain ⟨y0, y1, y2⟩ := H3.out.tr
  obtain ⟨t0, t1, t2⟩ := H3.out.res
  have f0 := H3.out.free 0
  have f1 := H3.out.free 1
  have f2 := H3.out.free 2
  go_wp2_with fail
  refine bodyPost_ret (v := .tuple #[.agg #[.slice (some ⟨gs, 0, none⟩) x.net.stops.length ks, .slice (some ⟨g, 0, none⟩) x.net.lines.length kl, .slice (some ⟨gt, 0, none⟩) (inL x.trips y).length kt], .bool true]) (by simp [withTr, results, Try.results65, go_sem, t0, t1, t2]) rfl ?_
  refine retTt_eq HR.out ⟨some ⟨gs, 0, none⟩, ks, some ⟨g, 0, none⟩, kl, some ⟨gt, 0, none⟩, kt, rfl, ?_, ?_⟩
  · refine (TtN.lower (lo := w1.heap.size) ?_ (by omega)).tto (gs := gs) (g := g) (gt := gt) (p := p) (r := r)
    repeat' (refine TtN.set ?_ (by show w.heap.size + 1 + 1 < w1.heap.size; omega) _)
    exact HN3.out
  · repeat' (refine Below.setCell ?_ (by simp <;> omega) _)
    exact H3.out.bel
set_option maxRecDepth 100000 in
set_option maxHeartbeats 4000000 in
theorem specAdd_no1 (x : TTD) (y : I3) (b o ca bl ol cl bt ot ct : Nat) (w : World) (hA : StrsIn w (Zone.below w.heap.size) (some ⟨b, o, none⟩) x.net.stops) (hL : LinesIn w (Zone.below w.heap.size) (some ⟨bl, ol, none⟩) x.net.lines) (hT : I3sIn w (Zone.below w.heap.size) (some ⟨bt, ot, none⟩) x.trips) (hx : FitsT x) (hb : ttB x = false) :
    Calls Try.prog 63 #[.agg #[.slice (some ⟨b, o, none⟩) x.net.stops.length ca, .slice (some ⟨bl, ol, none⟩) x.net.lines.length cl, .slice (some ⟨bt, ot, none⟩) x.trips.length ct], .agg #[.int .i64 y.a, .int .i64 y.b, .int .i64 y.c]] w (RetTt (adR x y).1 (adR x y).2 w) := by
  have HR := Lib.hid (adR_no (x := x) (t := y) (.inl hb))
  obtain ⟨W0, hW0⟩ : ∃ W0, W0 = (((w.alloc (.cells #[.slice (some ⟨b, o, none⟩) x.net.stops.length ca, .slice (some ⟨bl, ol, none⟩) x.net.lines.length cl, .slice (some ⟨bt, ot, none⟩) x.trips.length ct] 49)).alloc (.cells #[.int .i64 y.a, .int .i64 y.b, .int .i64 y.c] 94)).alloc (.cells #[.slice none 0 0, .slice none 0 0, .slice none 0 0] 49)) := ⟨_, rfl⟩
  have H0 : Hid (TU w W0 x (some ⟨b, o, none⟩) ca (some ⟨bl, ol, none⟩) cl (some ⟨bt, ot, none⟩) ct y) := Lib.hid (by rw [hW0]; exact TU.start hA hL hT)
  have htl : x.trips.length ≤ 1048576 := hx.trips
  clear hA hL hT
  go_enter Try.func63, Try.ntmps63
  go_upto_region 1 with fail
  rw [← hW0]
  clear hW0
  obtain ⟨c0_0, c0_1, c0_2⟩ := H0.out.box.cells
  obtain ⟨y0, y1, y2⟩ := H0.out.tr
  have HG1 := Lib.hid (l5Good_any x (some ⟨b, o, none⟩) (some ⟨bl, ol, none⟩) (some ⟨bt, ot, none⟩) ca cl ct W0 H0.out.box.stops H0.out.box.lines H0.out.box.trips hx)
  go_wp2_with fail
  refine HG1.out.mono ?_
  rintro e w1 ⟨rfl, hb1⟩
  rw [hb]
  clear hb
  have H1 := Lib.hid (H0.out.call hb1)
  have hz1 := hb1.size
  clear hb1 c0_0 c0_1 c0_2
  obtain ⟨c1_0, c1_1, c1_2⟩ := H1.out.box.cells
  obtain ⟨t0, t1, t2⟩ := H1.out.res
  have f0 := H1.out.free 0
  have f1 := H1.out.free 1
  have f2 := H1.out.free 2
  go_wp2_with fail
  refine bodyPost_ret (v := .tuple #[.agg #[.slice none 0 0, .slice none 0 0, .slice none 0 0], .bool false]) (by simp [results, Try.results63, go_sem, t0, t1, t2]) rfl ?_
  refine retTt_eq HR.out (retTt_zero ?_)
  repeat' (refine Below.setCell ?_ (by simp <;> omega) _)
  exact H1.out.bel
set_option maxRecDepth 100000 in
set_option maxHeartbeats 4000000 in
theorem specAdd_no2 (x : TTD) (y : I3) (b o ca bl ol cl bt ot ct : Nat) (w : World) (hA : StrsIn w (Zone.below w.heap.size) (some ⟨b, o, none⟩) x.net.stops) (hL : LinesIn w (Zone.below w.heap.size) (some ⟨bl, ol, none⟩) x.net.lines) (hT : I3sIn w (Zone.below w.heap.size) (some ⟨bt, ot, none⟩) x.trips) (hx : FitsT x) (hct : x.trips.length ≤ ct) (hb : ttB x = true) (hy : ttB (withTr x (inL x.trips y)) = false) :
    Calls Try.prog 63 #[.agg #[.slice (some ⟨b, o, none⟩) x.net.stops.length ca, .slice (some ⟨bl, ol, none⟩) x.net.lines.length cl, .slice (some ⟨bt, ot, none⟩) x.trips.length ct], .agg #[.int .i64 y.a, .int .i64 y.b, .int .i64 y.c]] w (RetTt (adR x y).1 (adR x y).2 w) := by
  have HR := Lib.hid (adR_no (x := x) (t := y) (.inr hy))
  have HX := Lib.hid (netX_of (ttB_net hb))
  have HF : Hid (FitsT (withTr x (inL x.trips y))) := Lib.hid (withTr_fits hx (by rw [inL_len]; have := ttB_trips hb; omega))
  obtain ⟨W0, hW0⟩ : ∃ W0, W0 = (((w.alloc (.cells #[.slice (some ⟨b, o, none⟩) x.net.stops.length ca, .slice (some ⟨bl, ol, none⟩) x.net.lines.length cl, .slice (some ⟨bt, ot, none⟩) x.trips.length ct] 49)).alloc (.cells #[.int .i64 y.a, .int .i64 y.b, .int .i64 y.c] 94)).alloc (.cells #[.slice none 0 0, .slice none 0 0, .slice none 0 0] 49)) := ⟨_, rfl⟩
  have H0 : Hid (TU w W0 x (some ⟨b, o, none⟩) ca (some ⟨bl, ol, none⟩) cl (some ⟨bt, ot, none⟩) ct y) := Lib.hid (by rw [hW0]; exact TU.start hA hL hT)
  have htl : x.trips.length ≤ 1048576 := hx.trips
  clear hA hL hT
  go_enter Try.func63, Try.ntmps63
  go_upto_region 1 with fail
  rw [← hW0]
  clear hW0
  obtain ⟨c0_0, c0_1, c0_2⟩ := H0.out.box.cells
  obtain ⟨y0, y1, y2⟩ := H0.out.tr
  have HG1 := Lib.hid (l5Good_any x (some ⟨b, o, none⟩) (some ⟨bl, ol, none⟩) (some ⟨bt, ot, none⟩) ca cl ct W0 H0.out.box.stops H0.out.box.lines H0.out.box.trips hx)
  go_wp2_with fail
  refine HG1.out.mono ?_
  rintro e w1 ⟨rfl, hb1⟩
  rw [hb]
  clear hb
  have H1 := Lib.hid (H0.out.call hb1)
  have hz1 := hb1.size
  clear hb1 c0_0 c0_1 c0_2
  obtain ⟨c1_0, c1_1, c1_2⟩ := H1.out.box.cells
  clear y0 y1 y2
  obtain ⟨y0, y1, y2⟩ := H1.out.tr
  have HG2 := Lib.hid (l5Put_any x y b o ca bl ol cl bt ot ct w1 H1.out.box.stops H1.out.box.lines H1.out.box.trips hx HX.out hct)
  go_wp2_with fail
  refine HG2.out.mono ?_
  rintro e w2 ⟨gs, ks, g, kl, p, r, gt, kt, rfl, hcap, hn, hb2⟩
  have H2 := Lib.hid (H1.out.call hb2)
  have HN2 := Lib.hid hn
  have hz2 := hb2.size
  have hlt1 := H1.out.lt
  clear hn hb2 c1_0 c1_1 c1_2 y0 y1 y2
  obtain ⟨c2_0, c2_1, c2_2⟩ := H2.out.box.cells
  obtain ⟨y0, y1, y2⟩ := H2.out.tr
  have hq := l5Good_any (withTr x (inL x.trips y)) (some ⟨gs, 0, none⟩) (some ⟨g, 0, none⟩) (some ⟨gt, 0, none⟩) ks kl kt w2 HN2.out.stopsIn HN2.out.linesIn HN2.out.tripsIn HF.out
  simp only [withTr] at hq
  have HG3 := Lib.hid hq
  clear hq
  go_wp2_with fail
  refine HG3.out.mono ?_
  rintro e w3 ⟨rfl, hb3⟩
  have hy' := hy
  simp only [withTr] at hy'
  rw [hy']
  have H3 := Lib.hid (H2.out.call hb3)
  have HN3 := Lib.hid (HN2.out.call hb3)
  have hz3 := hb3.size
  clear hb3 c2_0 c2_1 c2_2 y0 y1 y2
  obtain ⟨c3_0, c3_1, c3_2⟩ := H3.out.box.cells
  obtain ⟨y0, y1, y2⟩ := H3.out.tr
  obtain ⟨t0, t1, t2⟩ := H3.out.res
  have f0 := H3.out.free 0
  have f1 := H3.out.free 1
  have f2 := H3.out.free 2
  go_wp2_with fail
  refine bodyPost_ret (v := .tuple #[.agg #[.slice none 0 0, .slice none 0 0, .slice none 0 0], .bool false]) (by simp [results, Try.results63, go_sem, t0, t1, t2]) rfl ?_
  refine retTt_eq HR.out (retTt_zero ?_)
  repeat' (refine Below.setCell ?_ (by simp <;> omega) _)
  exact H3.out.bel
set_option maxRecDepth 100000 in
set_option maxHeartbeats 4000000 in
theorem specAdd_go (x : TTD) (y : I3) (b o ca bl ol cl bt ot ct : Nat) (w : World) (hA : StrsIn w (Zone.below w.heap.size) (some ⟨b, o, none⟩) x.net.stops) (hL : LinesIn w (Zone.below w.heap.size) (some ⟨bl, ol, none⟩) x.net.lines) (hT : I3sIn w (Zone.below w.heap.size) (some ⟨bt, ot, none⟩) x.trips) (hx : FitsT x) (hct : x.trips.length ≤ ct) (hb : ttB x = true) (hy : ttB (withTr x (inL x.trips y)) = true) :
    Calls Try.prog 63 #[.agg #[.slice (some ⟨b, o, none⟩) x.net.stops.length ca, .slice (some ⟨bl, ol, none⟩) x.net.lines.length cl, .slice (some ⟨bt, ot, none⟩) x.trips.length ct], .agg #[.int .i64 y.a, .int .i64 y.b, .int .i64 y.c]] w (RetTt (adR x y).1 (adR x y).2 w) := by
  have HR : Hid (adR x y = ((withTr x (inL x.trips y)), true)) := Lib.hid (adR_yes hb hy)
  have HX := Lib.hid (netX_of (ttB_net hb))
  have HF : Hid (FitsT (withTr x (inL x.trips y))) := Lib.hid (withTr_fits hx (by rw [inL_len]; have := ttB_trips hb; omega))
  obtain ⟨W0, hW0⟩ : ∃ W0, W0 = (((w.alloc (.cells #[.slice (some ⟨b, o, none⟩) x.net.stops.length ca, .slice (some ⟨bl, ol, none⟩) x.net.lines.length cl, .slice (some ⟨bt, ot, none⟩) x.trips.length ct] 49)).alloc (.cells #[.int .i64 y.a, .int .i64 y.b, .int .i64 y.c] 94)).alloc (.cells #[.slice none 0 0, .slice none 0 0, .slice none 0 0] 49)) := ⟨_, rfl⟩
  have H0 : Hid (TU w W0 x (some ⟨b, o, none⟩) ca (some ⟨bl, ol, none⟩) cl (some ⟨bt, ot, none⟩) ct y) := Lib.hid (by rw [hW0]; exact TU.start hA hL hT)
  have htl : x.trips.length ≤ 1048576 := hx.trips
  clear hA hL hT
  go_enter Try.func63, Try.ntmps63
  go_upto_region 1 with fail
  rw [← hW0]
  clear hW0
  obtain ⟨c0_0, c0_1, c0_2⟩ := H0.out.box.cells
  obtain ⟨y0, y1, y2⟩ := H0.out.tr
  have HG1 := Lib.hid (l5Good_any x (some ⟨b, o, none⟩) (some ⟨bl, ol, none⟩) (some ⟨bt, ot, none⟩) ca cl ct W0 H0.out.box.stops H0.out.box.lines H0.out.box.trips hx)
  go_wp2_with fail
  refine HG1.out.mono ?_
  rintro e w1 ⟨rfl, hb1⟩
  rw [hb]
  clear hb
  have H1 := Lib.hid (H0.out.call hb1)
  have hz1 := hb1.size
  clear hb1 c0_0 c0_1 c0_2
  obtain ⟨c1_0, c1_1, c1_2⟩ := H1.out.box.cells
  clear y0 y1 y2
  obtain ⟨y0, y1, y2⟩ := H1.out.tr
  have HG2 := Lib.hid (l5Put_any x y b o ca bl ol cl bt ot ct w1 H1.out.box.stops H1.out.box.lines H1.out.box.trips hx HX.out hct)
  go_wp2_with fail
  refine HG2.out.mono ?_
  rintro e w2 ⟨gs, ks, g, kl, p0, r0, gt, kt, rfl, hcap, hn, hb2⟩
  have H2 := Lib.hid (H1.out.call hb2)
  have HN2 := Lib.hid hn
  have hz2 := hb2.size
  have hlt1 := H1.out.lt
  clear hn hb2 c1_0 c1_1 c1_2 y0 y1 y2
  obtain ⟨c2_0, c2_1, c2_2⟩ := H2.out.box.cells
  obtain ⟨y0, y1, y2⟩ := H2.out.tr
  have hq := l5Good_any (withTr x (inL x.trips y)) (some ⟨gs, 0, none⟩) (some ⟨g, 0, none⟩) (some ⟨gt, 0, none⟩) ks kl kt w2 HN2.out.stopsIn HN2.out.linesIn HN2.out.tripsIn HF.out
  simp only [withTr] at hq
  have HG3 := Lib.hid hq
  clear hq
  go_wp2_with fail
  refine HG3.out.mono ?_
  rintro e w3 ⟨rfl, hb3⟩
  have hy' := hy
  simp only [withTr] at hy'
  rw [hy']
  have H3 := Lib.hid (H2.out.call hb3)
  have HN3 := Lib.hid (HN2.out.call hb3)
  have hz3 := hb3.size
  clear hb3 c2_0 c2_1 c2_2 y0 y1 y2
  obtain ⟨c3_0, c3_1, c3_2⟩ := H3.out.box.cells
  obtain ⟨y0, y1, y2⟩ := H3.out.tr
  clear HN3 HN2 hcap
  have HG4 := Lib.hid (l5Put_any x y b o ca bl ol cl bt ot ct w3 H3.out.box.stops H3.out.box.lines H3.out.box.trips hx HX.out hct)
  go_wp2_with fail
  refine HG4.out.mono ?_
  rintro e w4 ⟨gs4, ks4, g4, kl4, p, r, gt4, kt4, rfl, hcap4, hn, hb4⟩
  have H4 := Lib.hid (H3.out.call hb4)
  have HN4 := Lib.hid hn
  have hz4 := hb4.size
  have hlt3 := H3.out.lt
  clear hn hb4 c3_0 c3_1 c3_2 y0 y1 y2
  obtain ⟨c4_0, c4_1, c4_2⟩ := H4.out.box.cells
  obtain ⟨y0, y1, y2⟩ := H4.out.tr
  obtain ⟨t0, t1, t2⟩ := H4.out.res
  have f0 := H4.out.free 0
  have f1 := H4.out.free 1
  have f2 := H4.out.free 2
  go_wp2_with fail
  refine bodyPost_ret (v := .tuple #[.agg #[.slice (some ⟨gs4, 0, none⟩) x.net.stops.length ks4, .slice (some ⟨g4, 0, none⟩) x.net.lines.length kl4, .slice (some ⟨gt4, 0, none⟩) (inL x.trips y).length kt4], .bool true]) (by simp [withTr, results, Try.results63, go_sem, t0, t1, t2]) rfl ?_
  refine retTt_eq HR.out ⟨some ⟨gs4, 0, none⟩, ks4, some ⟨g4, 0, none⟩, kl4, some ⟨gt4, 0, none⟩, kt4, rfl, ?_, ?_⟩
  · refine (TtN.lower (lo := w3.heap.size) ?_ (by omega)).tto (gs := gs4) (g := g4) (gt := gt4) (p := p) (r := r)
    repeat' (refine TtN.set ?_ (by show w.heap.size + 1 + 1 < w3.heap.size; omega) _)
    exact HN4.out
  · repeat' (refine Below.setCell ?_ (by simp <;> omega) _)
    exact H4.out.bel
set_option maxRecDepth 100000 in
set_option maxHeartbeats 4000000 in
theorem implAddTrip_any (x : TTD) (y : I3) (b o ca bl ol cl bt ot ct : Nat) (w : World) (hA : StrsIn w (Zone.below w.heap.size) (some ⟨b, o, none⟩) x.net.stops) (hL : LinesIn w (Zone.below w.heap.size) (some ⟨bl, ol, none⟩) x.net.lines) (hT : I3sIn w (Zone.below w.heap.size) (some ⟨bt, ot, none⟩) x.trips) (hx : FitsT x) :
    Calls Try.prog 65 #[.agg #[.slice (some ⟨b, o, none⟩) x.net.stops.length ca, .slice (some ⟨bl, ol, none⟩) x.net.lines.length cl, .slice (some ⟨bt, ot, none⟩) x.trips.length ct], .agg #[.int .i64 y.a, .int .i64 y.b, .int .i64 y.c]] w (RetTt (adR x y).1 (adR x y).2 w) := by
  cases hb : ttB x
  · exact implAdd_no1 x y b o ca bl ol cl bt ot ct w hA hL hT hx hb
  · cases hy : ttB (withTr x (inL x.trips y))
    · exact implAdd_no2 x y b o ca bl ol cl bt ot ct w hA hL hT hx hb hy
    · exact implAdd_go x y b o ca bl ol cl bt ot ct w hA hL hT hx hb hy
set_option maxRecDepth 100000 in
set_option maxHeartbeats 4000000 in
theorem specAddTrip_any (x : TTD) (y : I3) (b o ca bl ol cl bt ot ct : Nat) (w : World) (hA : StrsIn w (Zone.below w.heap.size) (some ⟨b, o, none⟩) x.net.stops) (hL : LinesIn w (Zone.below w.heap.size) (some ⟨bl, ol, none⟩) x.net.lines) (hT : I3sIn w (Zone.below w.heap.size) (some ⟨bt, ot, none⟩) x.trips) (hx : FitsT x) (hct : x.trips.length ≤ ct) :
    Calls Try.prog 63 #[.agg #[.slice (some ⟨b, o, none⟩) x.net.stops.length ca, .slice (some ⟨bl, ol, none⟩) x.net.lines.length cl, .slice (some ⟨bt, ot, none⟩) x.trips.length ct], .agg #[.int .i64 y.a, .int .i64 y.b, .int .i64 y.c]] w (RetTt (adR x y).1 (adR x y).2 w) := by
  cases hb : ttB x
  · exact specAdd_no1 x y b o ca bl ol cl bt ot ct w hA hL hT hx hb
  · cases hy : ttB (withTr x (inL x.trips y))
    · exact specAdd_no2 x y b o ca bl ol cl bt ot ct w hA hL hT hx hct hb hy
    · exact specAdd_go x y b o ca bl ol cl bt ot ct w hA hL hT hx hct hb hy
end Go.Proofs.Ytambgommeannnaa
