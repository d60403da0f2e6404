/- RepeatTrips: both contracts. -/
import Derived.Test.YtambgommeannnaaRpi
import Derived.Deep.CutBlock
namespace Go.Proofs.Ytambgommeannnaa
open Go.ChangeShapes Go.WideShapes Go.ChangeAt Go.RowKit Go.PlainAid
set_option linter.unusedVariables false
set_option linter.unusedSimpArgs false

theorem i64_le {n : Int} (h : (Lit.int .i64 n).wf = true) : n ≤ 9223372036854775807 := by
  unfold Lit.wf at h
  simp only [Bool.and_eq_true, decide_eq_true_eq] at h
  exact Int.le_trans h.2 (by decide)
/-- All blocks but the box g are as they were. -/
structure SB (Wr : World) (g n : Nat) (w' : World) : Prop where
  bel : Below g Wr w'
  kept : ∀ X, X < Wr.heap.size → X ≠ g → w'.heap[X]? = Wr.heap[X]?
  has : HasC w' g n
section
variable {Wr w' w'' : World} {g n : Nat}
theorem SB.start (h : HasC Wr g n) : SB Wr g n Wr := ⟨Below.refl _ _, fun _ _ _ => rfl, h⟩
theorem SB.lt (h : SB Wr g n w') : g < w'.heap.size := h.has.1
theorem SB.call (h : SB Wr g n w') (hb : Below w'.heap.size w' w'') : SB Wr g n w'' :=
  ⟨h.bel.trans (hb.mono (Nat.le_of_lt h.has.1)), fun X hX h1 => (hb.block X (Nat.lt_of_lt_of_le hX h.bel.size)).trans (h.kept X hX h1), Nat.lt_of_lt_of_le h.has.1 hb.size, fun j => by
    rw [hb.cell (p := ⟨g, j, none⟩) h.has.1, hb.frozen (p := ⟨g, j, none⟩) h.has.1]; exact h.has.2 j⟩
theorem SB.drew (h : SB Wr g n w') : SB Wr g n w'.drew := ⟨h.bel.drew, h.kept, h.has⟩
theorem SB.alloc (h : SB Wr g n w') (o : Obj) : SB Wr g n (w'.alloc o) := h.call ((Below.refl _ _).alloc (Nat.le_refl _) _)
theorem SB.set (h : SB Wr g n w') (j : Nat) (u : Value) : SB Wr g n (w'.setCell ⟨g, j, none⟩ u) :=
  ⟨h.bel.setCell (p := ⟨g, j, none⟩) (Nat.le_refl _) u, fun X hX h1 => (Below.heap_setCell _ ⟨g, j, none⟩ _ _ h1).trans (h.kept X hX h1), h.has.set _ _⟩
theorem SB.same (h : SB Wr g n w') {X : Nat} (hX : X < Wr.heap.size) (h1 : X ≠ g) : Same Wr w' X := Same.of_blk (h.kept X hX h1)
end
theorem TtN.keepOff {w w' : World} {lo : Nat} {x : TTD} {gs g gt bx : Nat} {p r : Nat → Nat} (h : TtN w lo x gs g gt p r) (o : bx ≠ gs ∧ Off g x.net.lines.length p r bx ∧ bx ≠ gt) (hs : ∀ c, c ≠ bx → c < w.heap.size → Same w w' c) (hz : w.heap.size ≤ w'.heap.size) : TtN w' lo x gs g gt p r :=
  have hn := h.net
  have ha := hn.apart
  ⟨⟨hn.at0, hn.stops.keep fun c hc => by rw [Zone.one_ok hc]; exact hs _ (Ne.symm o.1) hn.s1, hn.lines.keepP (hs _ (Ne.symm o.2.1.1) ha.g1) (fun j hj => hs _ (Ne.symm (o.2.1.2 j hj).1) (ha.p0 j hj).2.1) (fun j hj => hs _ (Ne.symm (o.2.1.2 j hj).2) (ha.r0 j hj).2.1), ha.wide (Nat.le_refl _) hz, hn.s0, Nat.lt_of_lt_of_le hn.s1 hz, hn.off⟩,
    h.trip.keep fun c hc => by rw [Zone.one_ok hc]; exact hs _ (Ne.symm o.2.2) h.gt1, h.gt0, Nat.lt_of_lt_of_le h.gt1 hz, h.ne, h.off⟩
/-- The timetable that is being made, in its box bx. -/
structure RpW (cp : Prop) (w wr : World) (x : TTD) (A : Option Addr) (ca : Nat) (L : Option Addr) (cl : Nat) (T : Option Addr) (ct : Nat) (bx lo : Nat) (y : TTD) (gs ks g kl gt kt : Nat) (p r : Nat → Nat) : Prop where
  tw : TW w wr x A ca L cl T ct
  tt : TtN wr lo y gs g gt p r
  c0 : wr.cell? ⟨bx, 0, none⟩ = some (.slice (some ⟨gs, 0, none⟩) y.net.stops.length ks)
  c1 : wr.cell? ⟨bx, 1, none⟩ = some (.slice (some ⟨g, 0, none⟩) y.net.lines.length kl)
  c2 : wr.cell? ⟨bx, 2, none⟩ = some (.slice (some ⟨gt, 0, none⟩) y.trips.length kt)
  fr : ∀ j, wr.frozen? ⟨bx, j, none⟩ = false
  lt : bx < wr.heap.size
  off : bx ≠ gs ∧ Off g y.net.lines.length p r bx ∧ bx ≠ gt
  b0 : w.heap.size + 1 < bx
  l0 : w.heap.size + 1 < lo
  cap : cp → y.trips.length ≤ kt
section
variable {cp : Prop} {w wr w' : World} {x y y' : TTD} {A L T : Option Addr} {ca cl ct bx lo gs ks g kl gt kt : Nat} {p r : Nat → Nat}
theorem RpW.call (h : RpW cp w wr x A ca L cl T ct bx lo y gs ks g kl gt kt p r) (hb : Below wr.heap.size wr w') : RpW cp w w' x A ca L cl T ct bx lo y gs ks g kl gt kt p r :=
  have s : Same wr w' bx := Same.of_below hb h.lt
  ⟨h.tw.call hb, h.tt.call hb, (s 0).1.trans h.c0, (s 1).1.trans h.c1, (s 2).1.trans h.c2, fun j => (s j).2.trans (h.fr j), Nat.lt_of_lt_of_le h.lt hb.size, h.off, h.b0, h.l0, h.cap⟩
theorem RpW.has (h : RpW cp w wr x A ca L cl T ct bx lo y gs ks g kl gt kt p r) : HasC wr bx 3 :=
  ⟨h.lt, fun j => ⟨fun hj => by
    have : j = 0 ∨ j = 1 ∨ j = 2 := by omega
    rcases this with rfl | rfl | rfl
    · rw [h.c0]; rfl
    · rw [h.c1]; rfl
    · rw [h.c2]; rfl, h.fr j⟩⟩
theorem RpW.held (h : RpW cp w wr x A ca L cl T ct bx lo y gs ks g kl gt kt p r) (hs : SB wr bx 3 w') : TtN w' lo y gs g gt p r :=
  h.tt.keepOff h.off (fun c h1 h2 => hs.same h2 h1) hs.bel.size
theorem RpW.stored {gs6 ks6 g6 kl6 gt6 kt6 lo6 : Nat} {p6 r6 : Nat → Nat} (h : RpW cp w wr x A ca L cl T ct bx lo y gs ks g kl gt kt p r) (hs : SB wr bx 3 w') (hn : TtN w' lo6 y' gs6 g6 gt6 p6 r6) (hlo : wr.heap.size ≤ lo6) (hc : cp → y'.trips.length ≤ kt6) :
    RpW cp w (((w'.setCell ⟨bx, 0, none⟩ (.slice (some ⟨gs6, 0, none⟩) y'.net.stops.length ks6)).setCell ⟨bx, 1, none⟩ (.slice (some ⟨g6, 0, none⟩) y'.net.lines.length kl6)).setCell ⟨bx, 2, none⟩ (.slice (some ⟨gt6, 0, none⟩) y'.trips.length kt6)) x A ca L cl T ct bx lo y' gs6 ks6 g6 kl6 gt6 kt6 p6 r6 := by
  have hlt := h.lt
  have o1 : bx ≠ gs6 := by have := hn.net.s0; omega
  have o2 : Off g6 y'.net.lines.length p6 r6 bx := Off.of hn.net.apart (.inl (by omega))
  have o3 : bx ≠ gt6 := by have := hn.gt0; omega
  have hl : lo ≤ lo6 := by have := h.tt.gt0; have := h.tt.gt1; omega
  have q0 := (hs.has.get (j := 0) (by omega)).1
  have q1 := (hs.has.get (j := 1) (by omega)).1
  have q2 := (hs.has.get (j := 2) (by omega)).1
  have n1 : (w'.setCell ⟨bx, 0, none⟩ (.slice (some ⟨gs6, 0, none⟩) y'.net.stops.length ks6)).cell? ⟨bx, 1, none⟩ = some (getC w' bx 1) := by rw [World.cell?_setCell_other _ _ _ _ (addr_ne (by omega))]; exact q1
  have n2 : ((w'.setCell ⟨bx, 0, none⟩ (.slice (some ⟨gs6, 0, none⟩) y'.net.stops.length ks6)).setCell ⟨bx, 1, none⟩ (.slice (some ⟨g6, 0, none⟩) y'.net.lines.length kl6)).cell? ⟨bx, 2, none⟩ = some (getC w' bx 2) := by
    rw [World.cell?_setCell_other _ _ _ _ (addr_ne (by omega)), World.cell?_setCell_other _ _ _ _ (addr_ne (by omega))]; exact q2
  refine ⟨h.tw.kept ((((hs.bel).setCell (p := ⟨bx, 0, none⟩) (Nat.le_refl _) _).setCell (p := ⟨bx, 1, none⟩) (Nat.le_refl _) _).setCell (p := ⟨bx, 2, none⟩) (Nat.le_refl _) _) h.b0, ?_, ?_, ?_, ?_, fun j => ?_, ?_, ⟨o1, o2, o3⟩, h.b0, h.l0, hc⟩
  · exact (((hn.setOff (q := ⟨bx, 0, none⟩) o1 o2 o3 _).setOff (q := ⟨bx, 1, none⟩) o1 o2 o3 _).setOff (q := ⟨bx, 2, none⟩) o1 o2 o3 _).lower hl
  · rw [World.cell?_setCell_other _ _ _ _ (addr_ne (by omega)), World.cell?_setCell_other _ _ _ _ (addr_ne (by omega))]
    exact World.cell?_setCell_same _ _ _ q0
  · rw [World.cell?_setCell_other _ _ _ _ (addr_ne (by omega))]
    exact World.cell?_setCell_same _ _ _ n1
  · exact World.cell?_setCell_same _ _ _ n2
  · rw [World.frozen?_setCell, World.frozen?_setCell, World.frozen?_setCell]
    exact (hs.has.2 j).2
  · simp only [size_set]; exact hs.lt
end
set_option maxRecDepth 100000 in
set_option maxHeartbeats 4000000 in
theorem implRepeat_no1 (x : TTD) (l s t h : Int) (b o ca bl ol cl bt ot ct : Nat) (w : World) (hA : StrsIn w (Zone.below w.heap.size) (some ⟨b, o, none⟩) x.net.stops) (hL : LinesIn w (Zone.below w.heap.size) (some ⟨bl, ol, none⟩) x.net.lines) (hT : I3sIn w (Zone.below w.heap.size) (some ⟨bt, ot, none⟩) x.trips) (hx : FitsT x) (hb : ttB x = false) :
    Calls Try.prog 67 #[.agg #[.slice (some ⟨b, o, none⟩) x.net.stops.length ca, .slice (some ⟨bl, ol, none⟩) x.net.lines.length cl, .slice (some ⟨bt, ot, none⟩) x.trips.length ct], .int .i64 l, .int .i64 s, .int .i64 t, .int .i64 h] w (RetTtI (rpR x l s t h).1 (rpR x l s t h).2.1 (rpR x l s t h).2.2 w) := by
  have HR := Lib.hid (rpR_no (x := x) (l := l) (s := s) (t := t) (h := h) (.inl hb))
  obtain ⟨W0, hW0⟩ : ∃ W0, W0 = ((w.alloc (.cells #[.slice (some ⟨b, o, none⟩) x.net.stops.length ca, .slice (some ⟨bl, ol, none⟩) x.net.lines.length cl, .slice (some ⟨bt, ot, none⟩) x.trips.length ct] 49)).alloc (.cells #[.slice none 0 0, .slice none 0 0, .slice none 0 0] 49)) := ⟨_, rfl⟩
  have H0 : Hid (TW w W0 x (some ⟨b, o, none⟩) ca (some ⟨bl, ol, none⟩) cl (some ⟨bt, ot, none⟩) ct) := Lib.hid (by rw [hW0]; exact TW.start hA hL hT)
  have htl : x.trips.length ≤ 1048576 := hx.trips
  clear hA hL hT
  go_enter Try.func67, Try.ntmps67
  go_upto_region 1 with fail
  rw [← hW0]
  clear hW0
  obtain ⟨c0_0, c0_1, c0_2⟩ := H0.out.box.cells
  have HG1 := Lib.hid (isValidTimetable_any x (some ⟨b, o, none⟩) (some ⟨bl, ol, none⟩) (some ⟨bt, ot, none⟩) ca cl ct W0 H0.out.box.stops H0.out.box.lines H0.out.box.trips hx)
  go_wp2_with fail
  refine HG1.out.mono ?_
  rintro e w1 ⟨rfl, hb1⟩
  rw [hb]
  clear hb
  have H1 := Lib.hid (H0.out.call hb1)
  have hz1 := hb1.size
  clear hb1 c0_0 c0_1 c0_2
  obtain ⟨c1_0, c1_1, c1_2⟩ := H1.out.box.cells
  obtain ⟨t0, t1, t2⟩ := H1.out.res
  have f0 := H1.out.free 0
  have f1 := H1.out.free 1
  have f2 := H1.out.free 2
  go_wp2_with fail
  refine bodyPost_ret (v := .tuple #[.agg #[.slice none 0 0, .slice none 0 0, .slice none 0 0], .int .i64 0, .bool false]) (by simp [results, Try.results67, go_sem, t0, t1, t2]) rfl ?_
  refine retTtI_eq HR.out (retTtI_zero ?_)
  repeat' (refine Below.setCell ?_ (by simp) _)
  exact H1.out.bel
set_option maxRecDepth 100000 in
set_option maxHeartbeats 4000000 in
theorem implRepeat_no2 (x : TTD) (l s t h : Int) (b o ca bl ol cl bt ot ct : Nat) (w : World) (hA : StrsIn w (Zone.below w.heap.size) (some ⟨b, o, none⟩) x.net.stops) (hL : LinesIn w (Zone.below w.heap.size) (some ⟨bl, ol, none⟩) x.net.lines) (hT : I3sIn w (Zone.below w.heap.size) (some ⟨bt, ot, none⟩) x.trips) (hx : FitsT x) (hb : ttB x = true) (hi : inB l 0 (x.net.lines.length - 1) = false) :
    Calls Try.prog 67 #[.agg #[.slice (some ⟨b, o, none⟩) x.net.stops.length ca, .slice (some ⟨bl, ol, none⟩) x.net.lines.length cl, .slice (some ⟨bt, ot, none⟩) x.trips.length ct], .int .i64 l, .int .i64 s, .int .i64 t, .int .i64 h] w (RetTtI (rpR x l s t h).1 (rpR x l s t h).2.1 (rpR x l s t h).2.2 w) := by
  have HR := Lib.hid (rpR_no (x := x) (l := l) (s := s) (t := t) (h := h) (.inr (.inl hi)))
  have hnl : x.net.lines.length ≤ 1048576 := hx.net.lines
  have HI := Lib.hid hi
  clear hi
  obtain ⟨W0, hW0⟩ : ∃ W0, W0 = ((w.alloc (.cells #[.slice (some ⟨b, o, none⟩) x.net.stops.length ca, .slice (some ⟨bl, ol, none⟩) x.net.lines.length cl, .slice (some ⟨bt, ot, none⟩) x.trips.length ct] 49)).alloc (.cells #[.slice none 0 0, .slice none 0 0, .slice none 0 0] 49)) := ⟨_, rfl⟩
  have H0 : Hid (TW w W0 x (some ⟨b, o, none⟩) ca (some ⟨bl, ol, none⟩) cl (some ⟨bt, ot, none⟩) ct) := Lib.hid (by rw [hW0]; exact TW.start hA hL hT)
  have htl : x.trips.length ≤ 1048576 := hx.trips
  clear hA hL hT
  go_enter Try.func67, Try.ntmps67
  go_upto_region 1 with fail
  rw [← hW0]
  clear hW0
  obtain ⟨c0_0, c0_1, c0_2⟩ := H0.out.box.cells
  have HG1 := Lib.hid (isValidTimetable_any x (some ⟨b, o, none⟩) (some ⟨bl, ol, none⟩) (some ⟨bt, ot, none⟩) ca cl ct W0 H0.out.box.stops H0.out.box.lines H0.out.box.trips hx)
  go_wp2_with fail
  refine HG1.out.mono ?_
  rintro e w1 ⟨rfl, hb1⟩
  rw [hb]
  clear hb
  have H1 := Lib.hid (H0.out.call hb1)
  have hz1 := hb1.size
  clear hb1 c0_0 c0_1 c0_2
  obtain ⟨c1_0, c1_1, c1_2⟩ := H1.out.box.cells
  have HG2 := Lib.hid (isLine_any x.net (some ⟨b, o, none⟩) (some ⟨bl, ol, none⟩) ca cl l w1 hnl)
  go_wp2_with fail
  refine HG2.out.mono ?_
  rintro e w2 ⟨rfl, hb2⟩
  rw [HI.out]
  have H2 := Lib.hid (H1.out.call hb2)
  have hz2 := hb2.size
  clear hb2 c1_0 c1_1 c1_2
  obtain ⟨c2_0, c2_1, c2_2⟩ := H2.out.box.cells
  obtain ⟨t0, t1, t2⟩ := H2.out.res
  have f0 := H2.out.free 0
  have f1 := H2.out.free 1
  have f2 := H2.out.free 2
  go_wp2_with fail
  refine bodyPost_ret (v := .tuple #[.agg #[.slice none 0 0, .slice none 0 0, .slice none 0 0], .int .i64 0, .bool false]) (by simp [results, Try.results67, go_sem, t0, t1, t2]) rfl ?_
  refine retTtI_eq HR.out (retTtI_zero ?_)
  repeat' (refine Below.setCell ?_ (by simp) _)
  exact H2.out.bel
set_option maxRecDepth 100000 in
set_option maxHeartbeats 4000000 in
theorem implRepeat_no3 (x : TTD) (l s t h : Int) (b o ca bl ol cl bt ot ct : Nat) (w : World) (hA : StrsIn w (Zone.below w.heap.size) (some ⟨b, o, none⟩) x.net.stops) (hL : LinesIn w (Zone.below w.heap.size) (some ⟨bl, ol, none⟩) x.net.lines) (hT : I3sIn w (Zone.below w.heap.size) (some ⟨bt, ot, none⟩) x.trips) (hx : FitsT x) (hb : ttB x = true) (hi : inB l 0 (x.net.lines.length - 1) = true) (h1 : h < 1) :
    Calls Try.prog 67 #[.agg #[.slice (some ⟨b, o, none⟩) x.net.stops.length ca, .slice (some ⟨bl, ol, none⟩) x.net.lines.length cl, .slice (some ⟨bt, ot, none⟩) x.trips.length ct], .int .i64 l, .int .i64 s, .int .i64 t, .int .i64 h] w (RetTtI (rpR x l s t h).1 (rpR x l s t h).2.1 (rpR x l s t h).2.2 w) := by
  have HR := Lib.hid (rpR_no (x := x) (l := l) (s := s) (t := t) (h := h) (.inr (.inr (.inr h1))))
  have hnl : x.net.lines.length ≤ 1048576 := hx.net.lines
  have HI := Lib.hid hi
  clear hi
  have hd : decide (h ≤ 0) = true := decide_eq_true (by omega)
  obtain ⟨W0, hW0⟩ : ∃ W0, W0 = ((w.alloc (.cells #[.slice (some ⟨b, o, none⟩) x.net.stops.length ca, .slice (some ⟨bl, ol, none⟩) x.net.lines.length cl, .slice (some ⟨bt, ot, none⟩) x.trips.length ct] 49)).alloc (.cells #[.slice none 0 0, .slice none 0 0, .slice none 0 0] 49)) := ⟨_, rfl⟩
  have H0 : Hid (TW w W0 x (some ⟨b, o, none⟩) ca (some ⟨bl, ol, none⟩) cl (some ⟨bt, ot, none⟩) ct) := Lib.hid (by rw [hW0]; exact TW.start hA hL hT)
  have htl : x.trips.length ≤ 1048576 := hx.trips
  clear hA hL hT
  go_enter Try.func67, Try.ntmps67
  go_upto_region 1 with fail
  rw [← hW0]
  clear hW0
  obtain ⟨c0_0, c0_1, c0_2⟩ := H0.out.box.cells
  have HG1 := Lib.hid (isValidTimetable_any x (some ⟨b, o, none⟩) (some ⟨bl, ol, none⟩) (some ⟨bt, ot, none⟩) ca cl ct W0 H0.out.box.stops H0.out.box.lines H0.out.box.trips hx)
  go_wp2_with fail
  refine HG1.out.mono ?_
  rintro e w1 ⟨rfl, hb1⟩
  rw [hb]
  clear hb
  have H1 := Lib.hid (H0.out.call hb1)
  have hz1 := hb1.size
  clear hb1 c0_0 c0_1 c0_2
  obtain ⟨c1_0, c1_1, c1_2⟩ := H1.out.box.cells
  have HG2 := Lib.hid (isLine_any x.net (some ⟨b, o, none⟩) (some ⟨bl, ol, none⟩) ca cl l w1 hnl)
  go_wp2_with fail
  refine HG2.out.mono ?_
  rintro e w2 ⟨rfl, hb2⟩
  rw [HI.out]
  have H2 := Lib.hid (H1.out.call hb2)
  have hz2 := hb2.size
  clear hb2 c1_0 c1_1 c1_2
  obtain ⟨c2_0, c2_1, c2_2⟩ := H2.out.box.cells
  obtain ⟨t0, t1, t2⟩ := H2.out.res
  have f0 := H2.out.free 0
  have f1 := H2.out.free 1
  have f2 := H2.out.free 2
  go_wp2_with fail
  refine bodyPost_ret (v := .tuple #[.agg #[.slice none 0 0, .slice none 0 0, .slice none 0 0], .int .i64 0, .bool false]) (by simp [results, Try.results67, go_sem, t0, t1, t2]) rfl ?_
  refine retTtI_eq HR.out (retTtI_zero ?_)
  repeat' (refine Below.setCell ?_ (by simp) _)
  exact H2.out.bel
set_option maxRecDepth 100000 in
set_option maxHeartbeats 4000000 in
theorem implRepeat_no4 (x : TTD) (l s t h : Int) (b o ca bl ol cl bt ot ct : Nat) (w : World) (hA : StrsIn w (Zone.below w.heap.size) (some ⟨b, o, none⟩) x.net.stops) (hL : LinesIn w (Zone.below w.heap.size) (some ⟨bl, ol, none⟩) x.net.lines) (hT : I3sIn w (Zone.below w.heap.size) (some ⟨bt, ot, none⟩) x.trips) (hx : FitsT x) (hb : ttB x = true) (hi : inB l 0 (x.net.lines.length - 1) = true) (h1 : 1 ≤ h) (htm : tmB s = false) :
    Calls Try.prog 67 #[.agg #[.slice (some ⟨b, o, none⟩) x.net.stops.length ca, .slice (some ⟨bl, ol, none⟩) x.net.lines.length cl, .slice (some ⟨bt, ot, none⟩) x.trips.length ct], .int .i64 l, .int .i64 s, .int .i64 t, .int .i64 h] w (RetTtI (rpR x l s t h).1 (rpR x l s t h).2.1 (rpR x l s t h).2.2 w) := by
  have HR := Lib.hid (rpR_no (x := x) (l := l) (s := s) (t := t) (h := h) (.inr (.inr (.inl htm))))
  have hnl : x.net.lines.length ≤ 1048576 := hx.net.lines
  have HI := Lib.hid hi
  clear hi
  have HTM := Lib.hid htm
  clear htm
  have hd : decide (h ≤ 0) = false := decide_eq_false (by omega)
  obtain ⟨W0, hW0⟩ : ∃ W0, W0 = ((w.alloc (.cells #[.slice (some ⟨b, o, none⟩) x.net.stops.length ca, .slice (some ⟨bl, ol, none⟩) x.net.lines.length cl, .slice (some ⟨bt, ot, none⟩) x.trips.length ct] 49)).alloc (.cells #[.slice none 0 0, .slice none 0 0, .slice none 0 0] 49)) := ⟨_, rfl⟩
  have H0 : Hid (TW w W0 x (some ⟨b, o, none⟩) ca (some ⟨bl, ol, none⟩) cl (some ⟨bt, ot, none⟩) ct) := Lib.hid (by rw [hW0]; exact TW.start hA hL hT)
  have htl : x.trips.length ≤ 1048576 := hx.trips
  clear hA hL hT
  go_enter Try.func67, Try.ntmps67
  go_upto_region 1 with fail
  rw [← hW0]
  clear hW0
  obtain ⟨c0_0, c0_1, c0_2⟩ := H0.out.box.cells
  have HG1 := Lib.hid (isValidTimetable_any x (some ⟨b, o, none⟩) (some ⟨bl, ol, none⟩) (some ⟨bt, ot, none⟩) ca cl ct W0 H0.out.box.stops H0.out.box.lines H0.out.box.trips hx)
  go_wp2_with fail
  refine HG1.out.mono ?_
  rintro e w1 ⟨rfl, hb1⟩
  rw [hb]
  clear hb
  have H1 := Lib.hid (H0.out.call hb1)
  have hz1 := hb1.size
  clear hb1 c0_0 c0_1 c0_2
  obtain ⟨c1_0, c1_1, c1_2⟩ := H1.out.box.cells
  have HG2 := Lib.hid (isLine_any x.net (some ⟨b, o, none⟩) (some ⟨bl, ol, none⟩) ca cl l w1 hnl)
  go_wp2_with fail
  refine HG2.out.mono ?_
  rintro e w2 ⟨rfl, hb2⟩
  rw [HI.out]
  have H2 := Lib.hid (H1.out.call hb2)
  have hz2 := hb2.size
  clear hb2 c1_0 c1_1 c1_2
  obtain ⟨c2_0, c2_1, c2_2⟩ := H2.out.box.cells
  obtain ⟨t0, t1, t2⟩ := H2.out.res
  have f0 := H2.out.free 0
  have f1 := H2.out.free 1
  have f2 := H2.out.free 2
  go_wp2_with (go_at_call 89; refine (isValidTime_any _ _).mono ?_; rintro e w9 ⟨rfl, rfl⟩; rw [HTM.out])
  refine bodyPost_ret (v := .tuple #[.agg #[.slice none 0 0, .slice none 0 0, .slice none 0 0], .int .i64 0, .bool false]) (by simp [results, Try.results67, go_sem, t0, t1, t2]) rfl ?_
  refine retTtI_eq HR.out (retTtI_zero ?_)
  repeat' (refine Below.setCell ?_ (by simp) _)
  exact H2.out.bel
set_option maxRecDepth 100000 in
set_option maxHeartbeats 4000000 in
theorem specRepeat_no1 (x : TTD) (l s t h : Int) (b o ca bl ol cl bt ot ct : Nat) (w : World) (hA : StrsIn w (Zone.below w.heap.size) (some ⟨b, o, none⟩) x.net.stops) (hL : LinesIn w (Zone.below w.heap.size) (some ⟨bl, ol, none⟩) x.net.lines) (hT : I3sIn w (Zone.below w.heap.size) (some ⟨bt, ot, none⟩) x.trips) (hx : FitsT x) (hb : ttB x = false) :
    Calls Try.prog 66 #[.agg #[.slice (some ⟨b, o, none⟩) x.net.stops.length ca, .slice (some ⟨bl, ol, none⟩) x.net.lines.length cl, .slice (some ⟨bt, ot, none⟩) x.trips.length ct], .int .i64 l, .int .i64 s, .int .i64 t, .int .i64 h] w (RetTtI (rpR x l s t h).1 (rpR x l s t h).2.1 (rpR x l s t h).2.2 w) := by
  have HR := Lib.hid (rpR_no (x := x) (l := l) (s := s) (t := t) (h := h) (.inl hb))
  obtain ⟨W0, hW0⟩ : ∃ W0, W0 = ((w.alloc (.cells #[.slice (some ⟨b, o, none⟩) x.net.stops.length ca, .slice (some ⟨bl, ol, none⟩) x.net.lines.length cl, .slice (some ⟨bt, ot, none⟩) x.trips.length ct] 49)).alloc (.cells #[.slice none 0 0, .slice none 0 0, .slice none 0 0] 49)) := ⟨_, rfl⟩
  have H0 : Hid (TW w W0 x (some ⟨b, o, none⟩) ca (some ⟨bl, ol, none⟩) cl (some ⟨bt, ot, none⟩) ct) := Lib.hid (by rw [hW0]; exact TW.start hA hL hT)
  have htl : x.trips.length ≤ 1048576 := hx.trips
  clear hA hL hT
  go_enter Try.func66, Try.ntmps66
  go_upto_region 1 with fail
  rw [← hW0]
  clear hW0
  obtain ⟨c0_0, c0_1, c0_2⟩ := H0.out.box.cells
  have HG1 := Lib.hid (l5Good_any x (some ⟨b, o, none⟩) (some ⟨bl, ol, none⟩) (some ⟨bt, ot, none⟩) ca cl ct W0 H0.out.box.stops H0.out.box.lines H0.out.box.trips hx)
  go_wp2_with fail
  refine HG1.out.mono ?_
  rintro e w1 ⟨rfl, hb1⟩
  rw [hb]
  clear hb
  have H1 := Lib.hid (H0.out.call hb1)
  have hz1 := hb1.size
  clear hb1 c0_0 c0_1 c0_2
  obtain ⟨c1_0, c1_1, c1_2⟩ := H1.out.box.cells
  obtain ⟨t0, t1, t2⟩ := H1.out.res
  have f0 := H1.out.free 0
  have f1 := H1.out.free 1
  have f2 := H1.out.free 2
  go_wp2_with fail
  refine bodyPost_ret (v := .tuple #[.agg #[.slice none 0 0, .slice none 0 0, .slice none 0 0], .int .i64 0, .bool false]) (by simp [results, Try.results66, go_sem, t0, t1, t2]) rfl ?_
  refine retTtI_eq HR.out (retTtI_zero ?_)
  repeat' (refine Below.setCell ?_ (by simp) _)
  exact H1.out.bel
set_option maxRecDepth 100000 in
set_option maxHeartbeats 4000000 in
theorem specRepeat_no2 (x : TTD) (l s t h : Int) (b o ca bl ol cl bt ot ct : Nat) (w : World) (hA : StrsIn w (Zone.below w.heap.size) (some ⟨b, o, none⟩) x.net.stops) (hL : LinesIn w (Zone.below w.heap.size) (some ⟨bl, ol, none⟩) x.net.lines) (hT : I3sIn w (Zone.below w.heap.size) (some ⟨bt, ot, none⟩) x.trips) (hx : FitsT x) (hb : ttB x = true) (hi : inB l 0 (x.net.lines.length - 1) = false) :
    Calls Try.prog 66 #[.agg #[.slice (some ⟨b, o, none⟩) x.net.stops.length ca, .slice (some ⟨bl, ol, none⟩) x.net.lines.length cl, .slice (some ⟨bt, ot, none⟩) x.trips.length ct], .int .i64 l, .int .i64 s, .int .i64 t, .int .i64 h] w (RetTtI (rpR x l s t h).1 (rpR x l s t h).2.1 (rpR x l s t h).2.2 w) := by
  have HR := Lib.hid (rpR_no (x := x) (l := l) (s := s) (t := t) (h := h) (.inr (.inl hi)))
  have hnl : x.net.lines.length ≤ 1048576 := hx.net.lines
  have hwl : IntKind.i64.wrap ((x.net.lines.length : Int) - 1) = (x.net.lines.length : Int) - 1 := IntWalk.i64_in _ (by omega)
  have HI := Lib.hid hi
  clear hi
  obtain ⟨W0, hW0⟩ : ∃ W0, W0 = ((w.alloc (.cells #[.slice (some ⟨b, o, none⟩) x.net.stops.length ca, .slice (some ⟨bl, ol, none⟩) x.net.lines.length cl, .slice (some ⟨bt, ot, none⟩) x.trips.length ct] 49)).alloc (.cells #[.slice none 0 0, .slice none 0 0, .slice none 0 0] 49)) := ⟨_, rfl⟩
  have H0 : Hid (TW w W0 x (some ⟨b, o, none⟩) ca (some ⟨bl, ol, none⟩) cl (some ⟨bt, ot, none⟩) ct) := Lib.hid (by rw [hW0]; exact TW.start hA hL hT)
  have htl : x.trips.length ≤ 1048576 := hx.trips
  clear hA hL hT
  go_enter Try.func66, Try.ntmps66
  go_upto_region 1 with fail
  rw [← hW0]
  clear hW0
  obtain ⟨c0_0, c0_1, c0_2⟩ := H0.out.box.cells
  have HG1 := Lib.hid (l5Good_any x (some ⟨b, o, none⟩) (some ⟨bl, ol, none⟩) (some ⟨bt, ot, none⟩) ca cl ct W0 H0.out.box.stops H0.out.box.lines H0.out.box.trips hx)
  go_wp2_with fail
  refine HG1.out.mono ?_
  rintro e w1 ⟨rfl, hb1⟩
  rw [hb]
  clear hb
  have H1 := Lib.hid (H0.out.call hb1)
  have hz1 := hb1.size
  clear hb1 c0_0 c0_1 c0_2
  obtain ⟨c1_0, c1_1, c1_2⟩ := H1.out.box.cells
  obtain ⟨t0, t1, t2⟩ := H1.out.res
  have f0 := H1.out.free 0
  have f1 := H1.out.free 1
  have f2 := H1.out.free 2
  go_wp2_with (go_at_call 69; refine (l1In_any _ _ _ _).mono ?_; rintro e w9 ⟨rfl, rfl⟩; rw [HI.out])
  refine bodyPost_ret (v := .tuple #[.agg #[.slice none 0 0, .slice none 0 0, .slice none 0 0], .int .i64 0, .bool false]) (by simp [results, Try.results66, go_sem, t0, t1, t2]) rfl ?_
  refine retTtI_eq HR.out (retTtI_zero ?_)
  repeat' (refine Below.setCell ?_ (by simp) _)
  exact H1.out.bel
set_option maxRecDepth 100000 in
set_option maxHeartbeats 4000000 in
theorem specRepeat_no3 (x : TTD) (l s t h : Int) (b o ca bl ol cl bt ot ct : Nat) (w : World) (hA : StrsIn w (Zone.below w.heap.size) (some ⟨b, o, none⟩) x.net.stops) (hL : LinesIn w (Zone.below w.heap.size) (some ⟨bl, ol, none⟩) x.net.lines) (hT : I3sIn w (Zone.below w.heap.size) (some ⟨bt, ot, none⟩) x.trips) (hx : FitsT x) (hb : ttB x = true) (hi : inB l 0 (x.net.lines.length - 1) = true) (htm : tmB s = false) :
    Calls Try.prog 66 #[.agg #[.slice (some ⟨b, o, none⟩) x.net.stops.length ca, .slice (some ⟨bl, ol, none⟩) x.net.lines.length cl, .slice (some ⟨bt, ot, none⟩) x.trips.length ct], .int .i64 l, .int .i64 s, .int .i64 t, .int .i64 h] w (RetTtI (rpR x l s t h).1 (rpR x l s t h).2.1 (rpR x l s t h).2.2 w) := by
  have HR := Lib.hid (rpR_no (x := x) (l := l) (s := s) (t := t) (h := h) (.inr (.inr (.inl htm))))
  have hnl : x.net.lines.length ≤ 1048576 := hx.net.lines
  have hwl : IntKind.i64.wrap ((x.net.lines.length : Int) - 1) = (x.net.lines.length : Int) - 1 := IntWalk.i64_in _ (by omega)
  have HI := Lib.hid hi
  clear hi
  have HTM := Lib.hid htm
  clear htm
  obtain ⟨W0, hW0⟩ : ∃ W0, W0 = ((w.alloc (.cells #[.slice (some ⟨b, o, none⟩) x.net.stops.length ca, .slice (some ⟨bl, ol, none⟩) x.net.lines.length cl, .slice (some ⟨bt, ot, none⟩) x.trips.length ct] 49)).alloc (.cells #[.slice none 0 0, .slice none 0 0, .slice none 0 0] 49)) := ⟨_, rfl⟩
  have H0 : Hid (TW w W0 x (some ⟨b, o, none⟩) ca (some ⟨bl, ol, none⟩) cl (some ⟨bt, ot, none⟩) ct) := Lib.hid (by rw [hW0]; exact TW.start hA hL hT)
  have htl : x.trips.length ≤ 1048576 := hx.trips
  clear hA hL hT
  go_enter Try.func66, Try.ntmps66
  go_upto_region 1 with fail
  rw [← hW0]
  clear hW0
  obtain ⟨c0_0, c0_1, c0_2⟩ := H0.out.box.cells
  have HG1 := Lib.hid (l5Good_any x (some ⟨b, o, none⟩) (some ⟨bl, ol, none⟩) (some ⟨bt, ot, none⟩) ca cl ct W0 H0.out.box.stops H0.out.box.lines H0.out.box.trips hx)
  go_wp2_with fail
  refine HG1.out.mono ?_
  rintro e w1 ⟨rfl, hb1⟩
  rw [hb]
  clear hb
  have H1 := Lib.hid (H0.out.call hb1)
  have hz1 := hb1.size
  clear hb1 c0_0 c0_1 c0_2
  obtain ⟨c1_0, c1_1, c1_2⟩ := H1.out.box.cells
  obtain ⟨t0, t1, t2⟩ := H1.out.res
  have f0 := H1.out.free 0
  have f1 := H1.out.free 1
  have f2 := H1.out.free 2
  go_wp2_with (first | (go_at_call 69; refine (l1In_any _ _ _ _).mono ?_; rintro e w9 ⟨rfl, rfl⟩; rw [HI.out]) | (go_at_call 81; refine (l4Time_any _ _).mono ?_; rintro e w9 ⟨rfl, rfl⟩; rw [HTM.out]))
  refine bodyPost_ret (v := .tuple #[.agg #[.slice none 0 0, .slice none 0 0, .slice none 0 0], .int .i64 0, .bool false]) (by simp [results, Try.results66, go_sem, t0, t1, t2]) rfl ?_
  refine retTtI_eq HR.out (retTtI_zero ?_)
  repeat' (refine Below.setCell ?_ (by simp) _)
  exact H1.out.bel
set_option maxRecDepth 100000 in
set_option maxHeartbeats 4000000 in
theorem specRepeat_no4 (x : TTD) (l s t h : Int) (b o ca bl ol cl bt ot ct : Nat) (w : World) (hA : StrsIn w (Zone.below w.heap.size) (some ⟨b, o, none⟩) x.net.stops) (hL : LinesIn w (Zone.below w.heap.size) (some ⟨bl, ol, none⟩) x.net.lines) (hT : I3sIn w (Zone.below w.heap.size) (some ⟨bt, ot, none⟩) x.trips) (hx : FitsT x) (hb : ttB x = true) (hi : inB l 0 (x.net.lines.length - 1) = true) (htm : tmB s = true) (h1 : h < 1) :
    Calls Try.prog 66 #[.agg #[.slice (some ⟨b, o, none⟩) x.net.stops.length ca, .slice (some ⟨bl, ol, none⟩) x.net.lines.length cl, .slice (some ⟨bt, ot, none⟩) x.trips.length ct], .int .i64 l, .int .i64 s, .int .i64 t, .int .i64 h] w (RetTtI (rpR x l s t h).1 (rpR x l s t h).2.1 (rpR x l s t h).2.2 w) := by
  have HR := Lib.hid (rpR_no (x := x) (l := l) (s := s) (t := t) (h := h) (.inr (.inr (.inr h1))))
  have hnl : x.net.lines.length ≤ 1048576 := hx.net.lines
  have hwl : IntKind.i64.wrap ((x.net.lines.length : Int) - 1) = (x.net.lines.length : Int) - 1 := IntWalk.i64_in _ (by omega)
  have HI := Lib.hid hi
  clear hi
  have HTM := Lib.hid htm
  clear htm
  have hd : decide (h < 1) = true := decide_eq_true (by omega)
  obtain ⟨W0, hW0⟩ : ∃ W0, W0 = ((w.alloc (.cells #[.slice (some ⟨b, o, none⟩) x.net.stops.length ca, .slice (some ⟨bl, ol, none⟩) x.net.lines.length cl, .slice (some ⟨bt, ot, none⟩) x.trips.length ct] 49)).alloc (.cells #[.slice none 0 0, .slice none 0 0, .slice none 0 0] 49)) := ⟨_, rfl⟩
  have H0 : Hid (TW w W0 x (some ⟨b, o, none⟩) ca (some ⟨bl, ol, none⟩) cl (some ⟨bt, ot, none⟩) ct) := Lib.hid (by rw [hW0]; exact TW.start hA hL hT)
  have htl : x.trips.length ≤ 1048576 := hx.trips
  clear hA hL hT
  go_enter Try.func66, Try.ntmps66
  go_upto_region 1 with fail
  rw [← hW0]
  clear hW0
  obtain ⟨c0_0, c0_1, c0_2⟩ := H0.out.box.cells
  have HG1 := Lib.hid (l5Good_any x (some ⟨b, o, none⟩) (some ⟨bl, ol, none⟩) (some ⟨bt, ot, none⟩) ca cl ct W0 H0.out.box.stops H0.out.box.lines H0.out.box.trips hx)
  go_wp2_with fail
  refine HG1.out.mono ?_
  rintro e w1 ⟨rfl, hb1⟩
  rw [hb]
  clear hb
  have H1 := Lib.hid (H0.out.call hb1)
  have hz1 := hb1.size
  clear hb1 c0_0 c0_1 c0_2
  obtain ⟨c1_0, c1_1, c1_2⟩ := H1.out.box.cells
  obtain ⟨t0, t1, t2⟩ := H1.out.res
  have f0 := H1.out.free 0
  have f1 := H1.out.free 1
  have f2 := H1.out.free 2
  go_wp2_with (first | (go_at_call 69; refine (l1In_any _ _ _ _).mono ?_; rintro e w9 ⟨rfl, rfl⟩; rw [HI.out]) | (go_at_call 81; refine (l4Time_any _ _).mono ?_; rintro e w9 ⟨rfl, rfl⟩; rw [HTM.out]))
  refine bodyPost_ret (v := .tuple #[.agg #[.slice none 0 0, .slice none 0 0, .slice none 0 0], .int .i64 0, .bool false]) (by simp [results, Try.results66, go_sem, t0, t1, t2]) rfl ?_
  refine retTtI_eq HR.out (retTtI_zero ?_)
  repeat' (refine Below.setCell ?_ (by simp) _)
  exact H1.out.bel
end Go.Proofs.Ytambgommeannnaa
