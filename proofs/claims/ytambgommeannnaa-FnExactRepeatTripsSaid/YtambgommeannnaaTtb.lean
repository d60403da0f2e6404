/- Timetables in memory: size, copy, comparison, how they open. -/
import Derived.Test.YtambgommeannnaaTrp
import Derived.Test.YtambgommeannnaaNetC
namespace Go.Proofs.Ytambgommeannnaa
open Go.ChangeShapes Go.WideShapes Go.ChangeAt Go.RowKit Go.PlainAid Go.Deep
set_option linter.unusedVariables false

structure TTD where
  net : NetD
  trips : List I3
instance : Inhabited TTD := ⟨⟨default, []⟩⟩
structure FitsT (x : TTD) : Prop where
  net : Fits x.net
  trips : x.trips.length ≤ 1048576
/-- Size of a timetable. -/
def szTT (x : TTD) : Nat := szNet x.net + x.trips.length
theorem szTT_net (x : TTD) : szNet x.net ≤ szTT x := Nat.le_add_right _ _

/-- The three cells of a timetable. -/
def Tt3 (w : World) (g : Nat) (x : TTD) (A : Option Addr) (ca : Nat) (L : Option Addr) (cl : Nat) (T : Option Addr) (ct : Nat) : Prop :=
  w.cell? ⟨g, 0, none⟩ = some (.slice A x.net.stops.length ca) ∧ w.cell? ⟨g, 1, none⟩ = some (.slice L x.net.lines.length cl) ∧ w.cell? ⟨g, 2, none⟩ = some (.slice T x.trips.length ct)
section
variable {w0 w w' : World} {g B : Nat} {x : TTD} {A L T : Option Addr} {ca cl ct : Nat}
theorem Tt3.below (h : Tt3 w g x A ca L cl T ct) (hb : Below B w w') (hg : g < B) : Tt3 w' g x A ca L cl T ct :=
  ⟨(hb.cell (p := ⟨g, 0, none⟩) hg).trans h.1, (hb.cell (p := ⟨g, 1, none⟩) hg).trans h.2.1, (hb.cell (p := ⟨g, 2, none⟩) hg).trans h.2.2⟩
/-- A timetable that came in, its box at g; w0: the world at the call. -/
structure TtBox (w0 w : World) (g : Nat) (x : TTD) (A : Option Addr) (ca : Nat) (L : Option Addr) (cl : Nat) (T : Option Addr) (ct : Nat) : Prop where
  bel : Below w0.heap.size w0 w
  cells : Tt3 w g x A ca L cl T ct
  stops0 : StrsIn w (Zone.below w0.heap.size) A x.net.stops
  lines0 : LinesIn w (Zone.below w0.heap.size) L x.net.lines
  trips0 : I3sIn w (Zone.below w0.heap.size) T x.trips
  lt : g < w.heap.size
  le : w0.heap.size ≤ g
theorem TtBox.stops (h : TtBox w0 w g x A ca L cl T ct) : StrsIn w (Zone.below w.heap.size) A x.net.stops := h.stops0.mono (Zone.below_le h.bel.size)
theorem TtBox.lines (h : TtBox w0 w g x A ca L cl T ct) : LinesIn w (Zone.below w.heap.size) L x.net.lines := h.lines0.mono (Zone.below_le h.bel.size)
theorem TtBox.trips (h : TtBox w0 w g x A ca L cl T ct) : I3sIn w (Zone.below w.heap.size) T x.trips := h.trips0.mono (Zone.below_le h.bel.size)
theorem TtBox.callB (h : TtBox w0 w g x A ca L cl T ct) (hb : Below B w w') (hg : g < B) : TtBox w0 w' g x A ca L cl T ct :=
  have hl := h.le
  have hb' : Below w0.heap.size w w' := hb.mono (by omega)
  ⟨h.bel.trans hb', h.cells.below hb hg, h.stops0.at_below hb', h.lines0.at_below hb', h.trips0.at_below hb', Nat.lt_of_lt_of_le h.lt hb.size, h.le⟩
theorem TtBox.call (h : TtBox w0 w g x A ca L cl T ct) (hb : Below w.heap.size w w') : TtBox w0 w' g x A ca L cl T ct := h.callB hb h.lt
theorem TtBox.box {K : TypeId} (hA : StrsIn w (Zone.below w.heap.size) A x.net.stops) (hL : LinesIn w (Zone.below w.heap.size) L x.net.lines) (hT : I3sIn w (Zone.below w.heap.size) T x.trips) :
    TtBox w (w.alloc (.cells #[.slice A x.net.stops.length ca, .slice L x.net.lines.length cl, .slice T x.trips.length ct] K)) w.heap.size x A ca L cl T ct :=
  have hb : Below w.heap.size w (w.alloc (.cells #[.slice A x.net.stops.length ca, .slice L x.net.lines.length cl, .slice T x.trips.length ct] K)) := (Below.refl _ _).alloc (Nat.le_refl _) _
  ⟨hb, ⟨by go_simp, by go_simp, by go_simp⟩, hA.at_below hb, hL.at_below hb, hT.at_below hb, by simp, Nat.le_refl _⟩
end

set_option maxHeartbeats 1000000 in
theorem szTimetable_any (x : TTD) (A L T : Option Addr) (ca cl ct : Nat) (left : Int) (w : World) (h : StrsIn w (Zone.below w.heap.size) A x.net.stops) (h' : LinesIn w (Zone.below w.heap.size) L x.net.lines) (h0 : 0 ≤ left) (h1 : left ≤ 1048576)
    (hn : x.net.stops.length ≤ 9223372036854775807) (hm : x.net.lines.length ≤ 9223372036854775807) (hns : ∀ k, k < x.net.stops.length → (nthS x.net.stops k).size ≤ 9223372036854775807) (hms : ∀ k, k < x.net.lines.length → lenLn (nthL x.net.lines k)) (ht : x.trips.length ≤ 9223372036854775807) :
    Calls Try.prog 23 #[.agg #[.slice A x.net.stops.length ca, .slice L x.net.lines.length cl, .slice T x.trips.length ct], .int .i64 left] w fun e w' =>
      e = .returned (.int .i64 (szI (szTT x) left)) ∧ Below w.heap.size w w' := by
  have HX := Lib.hid h
  have HY := Lib.hid h'
  clear h h'
  have hs1 := szI_le (a := szNet x.net) h1
  have hs2 := szI_lo (a := szNet x.net) h0
  by_cases hb : szI (szNet x.net) left < 0
  · have H := Lib.hid (show szI (szTT x) left = -1 from szI_neg hb)
    go_enter Try.func23, Try.ntmps23
    go_wp2_with fail
    refine (szNetwork_any x.net _ _ _ _ _ _ (HX.out.call (by go_grown)) (HY.out.call (by go_grown)) h0 h1 hn hm hns hms).mono ?_
    rintro e w1 ⟨rfl, hb1⟩
    have HB1 : Hid (Below w.heap.size w w1) := bel_of (by go_grown) (by simp) hb1
    clear hb1
    go_wp2_with fail
    go_ret
    exact ⟨retI H.out.symm, HB1.out⟩
  · by_cases hc : szI x.trips.length (szI (szNet x.net) left) < 0
    all_goals
      have H := Lib.hid (show szI (szTT x) left = if szI x.trips.length (szI (szNet x.net) left) < 0 then -1 else szI x.trips.length (szI (szNet x.net) left) by
        unfold szTT
        rw [szI_add, if_neg hb]
        split
        · exact szI_neg' (by assumption)
        · first | rfl | omega)
      simp only [hc, if_true, if_false] at H
      go_enter Try.func23, Try.ntmps23
      go_wp2_with fail
      refine (szNetwork_any x.net _ _ _ _ _ _ (HX.out.call (by go_grown)) (HY.out.call (by go_grown)) h0 h1 hn hm hns hms).mono ?_
      rintro e w1 ⟨rfl, hb1⟩
      have HB1 : Hid (Below w.heap.size w w1) := bel_of (by go_grown) (by simp) hb1
      obtain ⟨hc1, hf1, hl1⟩ := bcell3 hb1
      clear hb1
      go_wp2_with fail
      refine (szTripS_any _ _ _ _ _ (by omega) (by omega) ht).mono ?_
      rintro e w2 ⟨rfl, rfl⟩
      go_wp2_with fail
      go_ret
      exact ⟨retI H.out.symm, HB1.out⟩

/-- A timetable in new memory. -/
def NewTt (x : TTD) (w : World) (e : Ending) (w' : World) : Prop :=
  ∃ g h k, e = .returned (.agg #[.slice (some ⟨g, 0, none⟩) x.net.stops.length x.net.stops.length, .slice (some ⟨h, 0, none⟩) x.net.lines.length x.net.lines.length, .slice (some ⟨k, 0, none⟩) x.trips.length x.trips.length]) ∧
    StrsIn w' (Zone.new w.heap.size w'.heap.size) (some ⟨g, 0, none⟩) x.net.stops ∧ LinesIn w' (Zone.new w.heap.size w'.heap.size) (some ⟨h, 0, none⟩) x.net.lines ∧ I3sIn w' (Zone.new w.heap.size w'.heap.size) (some ⟨k, 0, none⟩) x.trips ∧ Below w.heap.size w w'

set_option maxRecDepth 100000 in
set_option maxHeartbeats 2000000 in
theorem toTimetable_new (x : TTD) (A L T : Option Addr) (ca cl ct : Nat) (w : World) (h : StrsIn w (Zone.below w.heap.size) A x.net.stops) (h' : LinesIn w (Zone.below w.heap.size) L x.net.lines) (h2 : I3sIn w (Zone.below w.heap.size) T x.trips) (hx : FitsT x) :
    Calls Try.prog 25 #[.agg #[.slice A x.net.stops.length ca, .slice L x.net.lines.length cl, .slice T x.trips.length ct]] w (NewTt x w) := by
  have HX := Lib.hid h
  have HY := Lib.hid h'
  have HZ := Lib.hid h2
  have hf := hx.net
  have ht := hx.trips
  clear h h' h2
  go_enter Try.func25, Try.ntmps25
  go_wp2_with fail
  refine (toNetwork_new x.net _ _ _ _ _ (HX.out.call (by go_grown)) (HY.out.call (by go_grown)) hf).mono ?_
  rintro e w1 ⟨g, g', rfl, hg, hgl, hgz, hi1, hj1, hb1⟩
  have HB1 : Hid (Below w.heap.size w w1) := bel_of (by go_grown) (by simp; omega) hb1
  obtain ⟨hc1, hf1, hl1⟩ := bcell3 hb1
  have hz1 := hb1.size
  simp at hz1
  have hy0 : w.heap.size < w1.heap.size := by omega
  have hy1 : w.heap.size + 1 < w1.heap.size := by omega
  have hy2 : w.heap.size + 1 + 1 < w1.heap.size := by omega
  have HI1 : Hid (StrsIn w1 (Zone.new (w.heap.size + 3) w1.heap.size) (some ⟨g, 0, none⟩) x.net.stops) := hi1.mono (Zone.new_le (by simp) (Nat.le_refl _))
  have HJ1 : Hid (LinesIn w1 (Zone.new (w.heap.size + 3) w1.heap.size) (some ⟨g', 0, none⟩) x.net.lines) := hj1.mono (Zone.new_le (by simp) (Nat.le_refl _))
  clear hi1 hj1 hb1
  go_wp2_with fail
  refine (toTripS_new _ _ x.trips _ (HZ.out.call (((HB1.out).setCell (by simp; omega) _).setCell (by simp; omega) _)) ht).mono ?_
  rintro e w2 ⟨g2, rfl, hg2, hgl2, hi2, hb2⟩
  have HB2 : Hid (Below w.heap.size w w2) := bel_of ((HB1.out.setCell (by simp; omega) _).setCell (by simp; omega) _) (by simp; omega) hb2
  obtain ⟨hc2, hf2, hl2⟩ := bcell3 hb2
  have hz2 := hb2.size
  simp at hz2
  have HI1' : Hid (StrsIn w2 (Zone.new (w.heap.size + 3) w2.heap.size) (some ⟨g, 0, none⟩) x.net.stops) := (((HI1.out.new_set (Or.inl (by simp <;> omega)) _).new_set (Or.inl (by simp <;> omega)) _).new_call hb2 (by simp)).mono (Zone.new_le (Nat.le_refl _) hz2)
  have HJ1' : Hid (LinesIn w2 (Zone.new (w.heap.size + 3) w2.heap.size) (some ⟨g', 0, none⟩) x.net.lines) := (((HJ1.out.new_set (Or.inl (by simp <;> omega)) _).new_set (Or.inl (by simp <;> omega)) _).new_call hb2 (by simp)).mono (Zone.new_le (Nat.le_refl _) hz2)
  have hv2 : w.heap.size + 1 + 1 < w2.heap.size := by omega
  have HI2 : Hid (I3sIn w2 (Zone.new (w.heap.size + 3) w2.heap.size) (some ⟨g2, 0, none⟩) x.trips) := hi2.mono (Zone.new_le (by simp at hg2 ⊢ <;> omega) (Nat.le_refl _))
  have q0 : w2.cell? ⟨w.heap.size + 1, 0, none⟩ = some (.slice none 0 0) := by go_simp
  have q1 : w2.cell? ⟨w.heap.size + 1, 1, none⟩ = some (.slice none 0 0) := by go_simp
  have q2 : w2.cell? ⟨w.heap.size + 1, 2, none⟩ = some (.slice none 0 0) := by go_simp
  have r0 : w2.cell? ⟨w.heap.size + 1 + 1, 0, none⟩ = some (.slice (some ⟨g, 0, none⟩) x.net.stops.length x.net.stops.length) := by
    first
      | (go_simp; done)
      | (rw [hc2 _ _ (by simp; omega), World.cell?_setCell_other _ _ _ _ (by simp)]; exact World.cell?_setCell_same _ _ _ (u := .slice none 0 0) (by go_simp))
  have r1 : w2.cell? ⟨w.heap.size + 1 + 1, 1, none⟩ = some (.slice (some ⟨g', 0, none⟩) x.net.lines.length x.net.lines.length) := by
    first
      | (go_simp; done)
      | (rw [hc2 _ _ (by simp; omega)]; exact World.cell?_setCell_same _ _ _ (u := .slice none 0 0) (by go_simp))
  have r2 : w2.cell? ⟨w.heap.size + 1 + 1, 2, none⟩ = some (.slice none 0 0) := by go_simp
  have q5 : ∀ j, w2.frozen? ⟨w.heap.size + 1, j, none⟩ = false := fun j => by go_simp
  have q6 : ∀ j, w2.frozen? ⟨w.heap.size + 1 + 1, j, none⟩ = false := fun j => by go_simp
  clear hi2 hb2 hg hg2 hgl hgl2 hgz hc1 hc2 hf1 hf2 hl1 hl2
  go_wp2_with fail
  refine bodyPost_ret (v := .agg #[.slice (some ⟨g, 0, none⟩) x.net.stops.length x.net.stops.length, .slice (some ⟨g', 0, none⟩) x.net.lines.length x.net.lines.length, .slice (some ⟨g2, 0, none⟩) x.trips.length x.trips.length]) (by simp [results, Try.results25, go_sem, q0, q1, q2]) rfl ?_
  refine ⟨g, g', g2, rfl, ?_, ?_, ?_, ?_⟩
  · simp only [size_set]
    refine Sl.mono (Z := Zone.new (w.heap.size + 3) w2.heap.size) ?_ (Zone.new_le (by omega) (Nat.le_refl _))
    repeat' (refine Sl.new_set ?_ (Or.inl (by simp <;> omega)) _)
    exact HI1'.out
  · simp only [size_set]
    refine Sl.mono (Z := Zone.new (w.heap.size + 3) w2.heap.size) ?_ (Zone.new_le (by omega) (Nat.le_refl _))
    repeat' (refine Sl.new_set ?_ (Or.inl (by simp <;> omega)) _)
    exact HJ1'.out
  · simp only [size_set]
    refine Sl.mono (Z := Zone.new (w.heap.size + 3) w2.heap.size) ?_ (Zone.new_le (by omega) (Nat.le_refl _))
    repeat' (refine Sl.new_set ?_ (Or.inl (by simp <;> omega)) _)
    exact HI2.out
  · repeat' (refine Below.setCell ?_ (by simp <;> omega) _)
    exact HB2.out

set_option maxHeartbeats 1000000 in
theorem eqTimetable_same (x : TTD) (A L T A' L' T' : Option Addr) (ca cl ct ca' cl' ct' : Nat) (w : World) (h1 : StrsIn w (Zone.below w.heap.size) A x.net.stops) (h2 : LinesIn w (Zone.below w.heap.size) L x.net.lines) (h3 : I3sIn w (Zone.below w.heap.size) T x.trips)
    (h4 : StrsIn w (Zone.below w.heap.size) A' x.net.stops) (h5 : LinesIn w (Zone.below w.heap.size) L' x.net.lines) (h6 : I3sIn w (Zone.below w.heap.size) T' x.trips) (hx : FitsT x) :
    Calls Try.prog 28 #[.agg #[.slice A x.net.stops.length ca, .slice L x.net.lines.length cl, .slice T x.trips.length ct], .agg #[.slice A' x.net.stops.length ca', .slice L' x.net.lines.length cl', .slice T' x.trips.length ct']] w fun e w' => e = .returned (.bool true) ∧ Below w.heap.size w w' := by
  have H1 := Lib.hid h1
  have H2 := Lib.hid h2
  have H3 := Lib.hid h3
  have H4 := Lib.hid h4
  have H5 := Lib.hid h5
  have H6 := Lib.hid h6
  have hf := hx.net
  have ht := hx.trips
  clear h1 h2 h3 h4 h5 h6
  go_enter Try.func28, Try.ntmps28
  go_wp2_with fail
  refine (eqNetwork_same x.net _ _ _ _ _ _ _ _ _ (H1.out.call (by go_grown)) (H2.out.call (by go_grown)) (H4.out.call (by go_grown)) (H5.out.call (by go_grown)) hf).mono ?_
  rintro e w1 ⟨rfl, hb1⟩
  have HB1 : Hid (Below w.heap.size w w1) := bel_of (by go_grown) (by simp; omega) hb1
  obtain ⟨hc1, hf1, hl1⟩ := bcell3 hb1
  clear hb1
  go_wp2_with fail
  refine (eqTripS_same _ _ _ _ x.trips _ (H3.out.call HB1.out) (H6.out.call HB1.out) ht).mono ?_
  rintro e w2 ⟨rfl, hb2⟩
  have HB2 : Hid (Below w.heap.size w w2) := bel_of HB1.out HB1.out.size hb2
  clear hb2
  go_wp2_with fail
  go_ret
  exact ⟨rfl, HB2.out⟩

section
variable {H : Type} {enc : TypeId × Value → H} {P : Program} {W : World} {base : Nat} {sp : Nat → Bool} {held : Bool}
end
/-- What the laws know of a timetable that came in. -/
def LTt (W : World) (v : Value) (x : TTD) : Prop :=
  ∃ A ca L cl T ct, v = .agg #[.slice A x.net.stops.length ca, .slice L x.net.lines.length cl, .slice T x.trips.length ct] ∧ StrsIn W (Zone.below W.heap.size) A x.net.stops ∧ LinesIn W (Zone.below W.heap.size) L x.net.lines ∧ I3sIn W (Zone.below W.heap.size) T x.trips ∧
    x.net.stops.length ≤ 9223372036854775807 ∧ x.net.lines.length ≤ 9223372036854775807 ∧ (∀ k, k < x.net.stops.length → (nthS x.net.stops k).size ≤ 9223372036854775807) ∧ (∀ k, k < x.net.lines.length → lenLn (nthL x.net.lines k)) ∧ x.trips.length ≤ 9223372036854775807

theorem array3 {α : Type} {a : Array α} (h : a.size = 3) : ∃ x y z, a = #[x, y, z] := by
  obtain ⟨l⟩ := a
  match l, h with
  | [x, y, z], _ => exact ⟨x, y, z, rfl⟩

set_option maxRecDepth 100000 in
theorem open_ltt {H : Type} {enc : TypeId × Value → H} {W : World} {base : Nat} {v : Value} {d : DataW H} {p : List MemPlace} (hv : Value.okWide Try.prog W .any base 39 v)
    (h : DataW.Trod enc Try.prog W 0 (fun _ => true) true 39 v d p) : ∃ x, LTt W v x := by
  obtain ⟨cs, rfl, hsz⟩ := okWide_struct Try.underlying39 hv
  obtain ⟨c0, c1, c2, rfl⟩ := array3 (hsz.trans (show Try.prog.cellsOf 39 = 3 by kernel_rfl))
  obtain ⟨fuel, hf⟩ := h
  obtain ⟨y0, y1, n, _, _, h0, h1⟩ := trod_struct2 Try.underlying39 hf
  have k0 : Try.prog.cellsOf 36 = 2 := by kernel_rfl
  have k1 : Try.prog.cellsOf 37 = 1 := by kernel_rfl
  simp only [k0, k1, Value.cells] at h0 h1
  simp at h0 h1
  obtain ⟨z0, z1, m, _, _, g0, g1⟩ := trod_struct2 Try.underlying36 h0
  have k2 : Try.prog.cellsOf 33 = 1 := by kernel_rfl
  have k3 : Try.prog.cellsOf 34 = 1 := by kernel_rfl
  simp only [k2, k3] at g0 g1
  simp at g0 g1
  obtain ⟨A, ss, ca, e0, hA, hl0, hs⟩ := strs_open Try.underlying33 Try.underlying9 (by kernel_rfl) g0
  obtain ⟨L, xs, cl, e1, hL, hl1, hx⟩ := lines_open Try.underlying34 Try.underlying162 (by kernel_rfl) (by kernel_rfl) Try.underlying9 Try.underlying22 Try.underlying3 (by kernel_rfl) Try.underlying22 Try.underlying3 (by kernel_rfl) g1
  obtain ⟨T, ts, ct, e2, hT, hl2⟩ := i3s_openTrip Try.underlying37 Try.underlying92 (by kernel_rfl) (by kernel_rfl) Try.underlying3 Try.underlying3 Try.underlying3 h1
  simp at e0 e1 e2
  subst e0 e1 e2
  exact ⟨⟨⟨ss, xs⟩, ts⟩, A, ca, L, cl, T, ct, rfl, hA, hL, hT, hl0, hl1, hs, hx, hl2⟩
end Go.Proofs.Ytambgommeannnaa
