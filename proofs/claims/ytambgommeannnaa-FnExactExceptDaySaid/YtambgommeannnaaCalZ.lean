/- Calendars in zones: boxes, copy, comparison, marks. -/
import Derived.Test.YtambgommeannnaaCalM
import Derived.Test.YtambgommeannnaaMrk
namespace Go.Proofs.Ytambgommeannnaa
open Go.ChangeShapes Go.WideShapes Go.ChangeAt Go.RowKit Go.PlainAid
set_option linter.unusedVariables false

/-- A calendar in new memory. -/
def NewCalZ (f t d : Int) (us vs : List Int) (w : World) (e : Ending) (w' : World) : Prop :=
  ∃ g h, e = .returned (.agg #[.int .i64 f, .int .i64 t, .int .i64 d, .slice (some ⟨g, 0, none⟩) us.length us.length, .slice (some ⟨h, 0, none⟩) vs.length vs.length]) ∧ g < h ∧
    IntsIn w' (Zone.new w.heap.size w'.heap.size) (some ⟨g, 0, none⟩) us ∧ IntsIn w' (Zone.new w.heap.size w'.heap.size) (some ⟨h, 0, none⟩) vs ∧ Below w.heap.size w w'

set_option maxHeartbeats 1000000 in
theorem toCalendar_new (f t d : Int) (A R : Option Addr) (ca cr : Nat) (us vs : List Int) (w : World) (h : IntsIn w (Zone.below w.heap.size) A us) (h' : IntsIn w (Zone.below w.heap.size) R vs) (hn : us.length ≤ 1048576) (hm : vs.length ≤ 1048576) :
    Calls Try.prog 34 #[.agg #[.int .i64 f, .int .i64 t, .int .i64 d, .slice A us.length ca, .slice R vs.length cr]] w (NewCalZ f t d us vs w) := by
  have HX := Lib.hid h
  have HY := Lib.hid h'
  clear h h'
  go_enter Try.func34, Try.ntmps34
  go_wp2_with fail
  refine (toIntS_new _ _ _ _ (HX.out.call (by go_grown)) hn).mono ?_
  rintro e w1 ⟨g, rfl, hg, hgl, hi1, hb1⟩
  have HB1 : Hid (Below w.heap.size w w1) := bel_of (by go_grown) (by simp; omega) hb1
  obtain ⟨hc1, hf1, hl1⟩ := bcell3 hb1
  have hz1 := hb1.size
  simp at hz1
  have hy0 : w.heap.size < w1.heap.size := by omega
  have hy1 : w.heap.size + 1 < w1.heap.size := by omega
  have hy2 : w.heap.size + 1 + 1 < w1.heap.size := by omega
  have HI1 : Hid (IntsIn w1 (Zone.new (w.heap.size + 3) w1.heap.size) (some ⟨g, 0, none⟩) us) := hi1.mono (Zone.new_le (by simp) (Nat.le_refl _))
  clear hi1 hb1
  go_wp2_with fail
  refine (toIntS_new _ _ _ _ (HY.out.call ((HB1.out).setCell (by simp; omega) _)) hm).mono ?_
  rintro e w2 ⟨g2, rfl, hg2, hgl2, hi2, hb2⟩
  have HB2 : Hid (Below w.heap.size w w2) := bel_of (HB1.out.setCell (by simp; omega) _) (by simp; omega) hb2
  have hz2' := hb2.size
  simp at hz2'
  have HI1' : Hid (IntsIn w2 (Zone.new (w.heap.size + 3) w2.heap.size) (some ⟨g, 0, none⟩) us) := ((HI1.out.new_set (Or.inl (by simp <;> omega)) _).new_call hb2 (by simp)).mono (Zone.new_le (Nat.le_refl _) hz2')
  obtain ⟨hc2, hf2, hl2⟩ := bcell3 hb2
  have hz2 := hb2.size
  simp at hz2
  have hv2 : w.heap.size + 1 + 1 < w2.heap.size := by omega
  have HI2 : Hid (IntsIn w2 (Zone.new (w.heap.size + 3) w2.heap.size) (some ⟨g2, 0, none⟩) vs) := hi2.mono (Zone.new_le (by simp at hg2 ⊢ <;> omega) (Nat.le_refl _))
  have HG : Hid (w.heap.size + 2 < g ∧ w.heap.size + 2 < g2 ∧ g < g2) := by
    simp at hg hg2
    exact ⟨by omega, by omega, by omega⟩
  have q0 : w2.cell? ⟨w.heap.size + 1, 0, none⟩ = some (.int .i64 0) := by go_simp
  have q1 : w2.cell? ⟨w.heap.size + 1, 1, none⟩ = some (.int .i64 0) := by go_simp
  have q2 : w2.cell? ⟨w.heap.size + 1, 2, none⟩ = some (.int .i64 0) := by go_simp
  have q3 : w2.cell? ⟨w.heap.size + 1, 3, none⟩ = some (.slice none 0 0) := by go_simp
  have q4 : w2.cell? ⟨w.heap.size + 1, 4, none⟩ = some (.slice none 0 0) := by go_simp
  have r0 : w2.cell? ⟨w.heap.size + 1 + 1, 0, none⟩ = some (.int .i64 f) := by first | go_simp | (rw [hc2 _ _ (by simp; omega)]; exact World.cell?_setCell_same _ _ _ (u := .slice none 0 0) (by go_simp))
  have r1 : w2.cell? ⟨w.heap.size + 1 + 1, 1, none⟩ = some (.int .i64 t) := by first | go_simp | (rw [hc2 _ _ (by simp; omega)]; exact World.cell?_setCell_same _ _ _ (u := .slice none 0 0) (by go_simp))
  have r2 : w2.cell? ⟨w.heap.size + 1 + 1, 2, none⟩ = some (.int .i64 d) := by first | go_simp | (rw [hc2 _ _ (by simp; omega)]; exact World.cell?_setCell_same _ _ _ (u := .slice none 0 0) (by go_simp))
  have r3 : w2.cell? ⟨w.heap.size + 1 + 1, 3, none⟩ = some (.slice (some ⟨g, 0, none⟩) us.length us.length) := by first | go_simp | (rw [hc2 _ _ (by simp; omega)]; exact World.cell?_setCell_same _ _ _ (u := .slice none 0 0) (by go_simp))
  have r4 : w2.cell? ⟨w.heap.size + 1 + 1, 4, none⟩ = some (.slice none 0 0) := by first | go_simp | (rw [hc2 _ _ (by simp; omega)]; exact World.cell?_setCell_same _ _ _ (u := .slice none 0 0) (by go_simp))
  have q5 : ∀ j, w2.frozen? ⟨w.heap.size + 1, j, none⟩ = false := fun j => by go_simp
  have q6 : ∀ j, w2.frozen? ⟨w.heap.size + 1 + 1, j, none⟩ = false := fun j => by go_simp
  clear hi2 hb2 hg hg2 hgl hgl2 hc1 hc2 hf1 hf2 hl1 hl2
  go_wp2_with fail
  refine bodyPost_ret (v := .agg #[.int .i64 f, .int .i64 t, .int .i64 d, .slice (some ⟨g, 0, none⟩) us.length us.length, .slice (some ⟨g2, 0, none⟩) vs.length vs.length]) (by simp [results, Try.results34, go_sem, q0, q1, q2, q3, q4]) rfl ?_
  have hg := HG.out
  refine ⟨g, g2, rfl, hg.2.2, ?_, ?_, ?_⟩
  · simp only [size_set]
    refine Sl.mono (Z := Zone.new (w.heap.size + 3) w2.heap.size) ?_ (Zone.new_le (by omega) (Nat.le_refl _))
    repeat' (refine Sl.new_set ?_ (Or.inl (by simp <;> omega)) _)
    exact HI1'.out
  · simp only [size_set]
    refine Sl.mono (Z := Zone.new (w.heap.size + 3) w2.heap.size) ?_ (Zone.new_le (by omega) (Nat.le_refl _))
    repeat' (refine Sl.new_set ?_ (Or.inl (by simp <;> omega)) _)
    exact HI2.out
  · repeat' (refine Below.setCell ?_ (by simp <;> omega) _)
    exact HB2.out

theorem szCalendar_b (f t d : Int) (A R : Option Addr) (na ca nr cr : Nat) (left : Int) (w : World) (h0 : 0 ≤ left) (h1 : left ≤ 1048576) (hn : na ≤ 9223372036854775807) (hm : nr ≤ 9223372036854775807) :
    Calls Try.prog 32 #[.agg #[.int .i64 f, .int .i64 t, .int .i64 d, .slice A na ca, .slice R nr cr], .int .i64 left] w fun e w' => e = .returned (.int .i64 (szI (na + nr) left)) ∧ Below w.heap.size w w' :=
  (szCalendar_any f t d A R na ca nr cr left w h0 h1 hn hm).mono fun e w' ⟨h, h'⟩ => ⟨by rw [h, szI_add]; rfl, by rw [h']; exact (Below.refl _ _).alloc (Nat.le_refl _) _⟩

theorem eqCalendar_sameZ (f t d : Int) (A R A' R' : Option Addr) (ca cr ca' cr' : Nat) (us vs : List Int) (w : World) (h1 : IntsIn w (Zone.below w.heap.size) A us) (h2 : IntsIn w (Zone.below w.heap.size) R vs) (h3 : IntsIn w (Zone.below w.heap.size) A' us) (h4 : IntsIn w (Zone.below w.heap.size) R' vs)
    (hn : us.length ≤ 1048576) (hm : vs.length ≤ 1048576) :
    Calls Try.prog 18 #[.agg #[.int .i64 f, .int .i64 t, .int .i64 d, .slice A us.length ca, .slice R vs.length cr], .agg #[.int .i64 f, .int .i64 t, .int .i64 d, .slice A' us.length ca', .slice R' vs.length cr']] w fun e w' => e = .returned (.bool true) ∧ Below w.heap.size w w' :=
  eqCalendar_same f t d A R A' R' ca cr ca' cr' us vs w (IntsIn.at h1) (IntsIn.at h2) (IntsIn.at h3) (IntsIn.at h4) hn hm

set_option maxHeartbeats 1000000 in
theorem markCalendar_any (lo hi : Nat) (f t d : Int) (A R : Option Addr) (ca cr : Nat) (us vs : List Int) (K : Nat) (w : World) (h1 : IntsIn w (Zone.new lo hi) A us) (h2 : IntsIn w (Zone.new lo hi) R vs) (hh : hi ≤ w.heap.size) (hn : us.length ≤ 1048576) (hm : vs.length ≤ 1048576) (hK : K ≤ 1048576 * 1048576 - 4 * 1048576) :
    Calls Try.prog 21 #[.agg #[.int .i64 f, .int .i64 t, .int .i64 d, .slice A us.length ca, .slice R vs.length cr], .int .i64 (K : Nat)] w fun e w' => e = .returned (.int .i64 ((K + (us.length + vs.length) : Nat) : Int)) ∧ Mk lo hi w w' := by
  have hb : Below w.heap.size w (w.alloc (.cells #[.int .i64 f, .int .i64 t, .int .i64 d, .slice A us.length ca, .slice R vs.length cr] 24)) := by go_grown
  have hz : w.heap.size < (w.alloc (.cells #[.int .i64 f, .int .i64 t, .int .i64 d, .slice A us.length ca, .slice R vs.length cr] 24)).heap.size := by simp
  have HM0 : Hid (Mk lo hi w (w.alloc (.cells #[.int .i64 f, .int .i64 t, .int .i64 d, .slice A us.length ca, .slice R vs.length cr] 24))) := Lib.hid (Mk.of_below hb hh)
  have HR := Lib.hid (h2.new_call hb hh)
  have hq := markIntS_any lo hi A ca us K _ (h1.new_call hb hh) hn (by omega)
  push_cast at hq
  have HQ := Lib.hid hq
  have hc : (w.alloc (.cells #[.int .i64 f, .int .i64 t, .int .i64 d, .slice A us.length ca, .slice R vs.length cr] 24)).cell? ⟨w.heap.size, 4, none⟩ = some (.slice R vs.length cr) := by go_simp
  have HC := Lib.hid hc
  clear hq hb h1 h2 hc
  go_enter Try.func21, Try.ntmps21
  go_wp2_with fail
  refine HQ.out.mono ?_
  rintro e w1 ⟨rfl, hm1, _⟩
  have HM1 := Lib.hid (HM0.out.trans hm1)
  have hc : w1.cell? ⟨w.heap.size, 4, none⟩ = some (.slice R vs.length cr) := (hm1.same (b := w.heap.size) (.inr hh) hz 4).1.trans HC.out
  obtain ⟨ys, hy, hi1⟩ := IntsIn.mk HR.out hm1 (fun _ b hb => hb)
  have hq := markIntS_any lo hi R cr ys (K + us.length) _ hi1 (by omega) (by omega)
  rw [hy] at hq
  push_cast at hq
  have HQ2 := Lib.hid hq
  clear hm1 hi1 hq hy
  go_wp2_with fail
  refine HQ2.out.mono ?_
  rintro e w2 ⟨rfl, hm2, _⟩
  have HM2 := Lib.hid (HM1.out.trans hm2)
  clear hm2 hc
  go_wp2_with fail
  go_ret
  exact ⟨retI (by push_cast; omega), HM2.out⟩

/-- A calendar that came in, its box at g; w0: the world at the call. -/
structure CalBox (w0 w : World) (g : Nat) (f t d : Int) (us vs : List Int) (A : Option Addr) (ca : Nat) (R : Option Addr) (cr : Nat) : Prop where
  bel : Below w0.heap.size w0 w
  cells : Cal5 w g f t d A us.length ca R vs.length cr
  us0 : IntsIn w (Zone.below w0.heap.size) A us
  vs0 : IntsIn w (Zone.below w0.heap.size) R vs
  lt : g < w.heap.size
  le : w0.heap.size ≤ g
section
variable {w0 w w' : World} {g B : Nat} {f t d : Int} {us vs : List Int} {A R : Option Addr} {ca cr : Nat}
theorem CalBox.usA (h : CalBox w0 w g f t d us vs A ca R cr) : IntsAt w w.heap.size A us := IntsIn.at (h.us0.mono (Zone.below_le h.bel.size))
theorem CalBox.vsA (h : CalBox w0 w g f t d us vs A ca R cr) : IntsAt w w.heap.size R vs := IntsIn.at (h.vs0.mono (Zone.below_le h.bel.size))
theorem CalBox.callB (h : CalBox w0 w g f t d us vs A ca R cr) (hb : Below B w w') (hg : g < B) : CalBox w0 w' g f t d us vs A ca R cr :=
  have hl := h.le
  have hb' : Below w0.heap.size w w' := hb.mono (by omega)
  ⟨h.bel.trans hb', h.cells.below hb hg, h.us0.at_below hb', h.vs0.at_below hb', Nat.lt_of_lt_of_le h.lt hb.size, h.le⟩
theorem CalBox.call (h : CalBox w0 w g f t d us vs A ca R cr) (hb : Below w.heap.size w w') : CalBox w0 w' g f t d us vs A ca R cr := h.callB hb h.lt
end
end Go.Proofs.Ytambgommeannnaa
