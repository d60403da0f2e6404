/- Timetables in memory: size, copy, comparison, how they open. -/
import Derived.Test.YtpipegdjflniaaaDoorTrp
import Derived.Test.YtpipegdjflniaaaDoorNetC
namespace Go.Proofs.YtpipegdjflniaaaDoor
open Go.ChangeShapes Go.WideShapes Go.ChangeAt Go.RowKit Go.PlainAid Go.Deep
set_option linter.unusedVariables false

structure TTD where
  net : NetD
  trips : List I3
instance : Inhabited TTD := ⟨⟨default, []⟩⟩
structure FitsT (x : TTD) : Prop where
  net : Fits x.net
  trips : x.trips.length ≤ 1048576
/-- Size of a timetable. -/
def szTT (x : TTD) : Nat := szNet x.net + x.trips.length
theorem szTT_net (x : TTD) : szNet x.net ≤ szTT x := Nat.le_add_right _ _

/-- The three cells of a timetable. -/
def Tt3 (w : World) (g : Nat) (x : TTD) (A : Option Addr) (ca : Nat) (L : Option Addr) (cl : Nat) (T : Option Addr) (ct : Nat) : Prop :=
  w.cell? ⟨g, 0, none⟩ = some (.slice A x.net.stops.length ca) ∧ w.cell? ⟨g, 1, none⟩ = some (.slice L x.net.lines.length cl) ∧ w.cell? ⟨g, 2, none⟩ = some (.slice T x.trips.length ct)
section
variable {w0 w w' : World} {g B : Nat} {x : TTD} {A L T : Option Addr} {ca cl ct : Nat}
theorem Tt3.below (h : Tt3 w g x A ca L cl T ct) (hb : Below B w w') (hg : g < B) : Tt3 w' g x A ca L cl T ct :=
  ⟨(hb.cell (p := ⟨g, 0, none⟩) hg).trans h.1, (hb.cell (p := ⟨g, 1, none⟩) hg).trans h.2.1, (hb.cell (p := ⟨g, 2, none⟩) hg).trans h.2.2⟩
/-- A timetable that came in, its box at g; w0: the world at the call. -/
structure TtBox (w0 w : World) (g : Nat) (x : TTD) (A : Option Addr) (ca : Nat) (L : Option Addr) (cl : Nat) (T : Option Addr) (ct : Nat) : Prop where
  bel : Below w0.heap.size w0 w
  cells : Tt3 w g x A ca L cl T ct
  stops0 : StrsIn w (Zone.below w0.heap.size) A x.net.stops
  lines0 : LinesIn w (Zone.below w0.heap.size) L x.net.lines
  trips0 : I3sIn w (Zone.below w0.heap.size) T x.trips
  lt : g < w.heap.size
  le : w0.heap.size ≤ g
theorem TtBox.stops (h : TtBox w0 w g x A ca L cl T ct) : StrsIn w (Zone.below w.heap.size) A x.net.stops := h.stops0.mono (Zone.below_le h.bel.size)
theorem TtBox.lines (h : TtBox w0 w g x A ca L cl T ct) : LinesIn w (Zone.below w.heap.size) L x.net.lines := h.lines0.mono (Zone.below_le h.bel.size)
theorem TtBox.trips (h : TtBox w0 w g x A ca L cl T ct) : I3sIn w (Zone.below w.heap.size) T x.trips := h.trips0.mono (Zone.below_le h.bel.size)
theorem TtBox.callB (h : TtBox w0 w g x A ca L cl T ct) (hb : Below B w w') (hg : g < B) : TtBox w0 w' g x A ca L cl T ct :=
  have hl := h.le
  have hb' : Below w0.heap.size w w' := hb.mono (by omega)
  ⟨h.bel.trans hb', h.cells.below hb hg, h.stops0.at_below hb', h.lines0.at_below hb', h.trips0.at_below hb', Nat.lt_of_lt_of_le h.lt hb.size, h.le⟩
theorem TtBox.call (h : TtBox w0 w g x A ca L cl T ct) (hb : Below w.heap.size w w') : TtBox w0 w' g x A ca L cl T ct := h.callB hb h.lt
theorem TtBox.box {K : TypeId} (hA : StrsIn w (Zone.below w.heap.size) A x.net.stops) (hL : LinesIn w (Zone.below w.heap.size) L x.net.lines) (hT : I3sIn w (Zone.below w.heap.size) T x.trips) :
    TtBox w (w.alloc (.cells #[.slice A x.net.stops.length ca, .slice L x.net.lines.length cl, .slice T x.trips.length ct] K)) w.heap.size x A ca L cl T ct :=
  have hb : Below w.heap.size w (w.alloc (.cells #[.slice A x.net.stops.length ca, .slice L x.net.lines.length cl, .slice T x.trips.length ct] K)) := (Below.refl _ _).alloc (Nat.le_refl _) _
  ⟨hb, ⟨by go_simp, by go_simp, by go_simp⟩, hA.at_below hb, hL.at_below hb, hT.at_below hb, by simp, Nat.le_refl _⟩
end

/-- A timetable in new memory. -/
def NewTt (x : TTD) (w : World) (e : Ending) (w' : World) : Prop :=
  ∃ g h k, e = .returned (.agg #[.slice (some ⟨g, 0, none⟩) x.net.stops.length x.net.stops.length, .slice (some ⟨h, 0, none⟩) x.net.lines.length x.net.lines.length, .slice (some ⟨k, 0, none⟩) x.trips.length x.trips.length]) ∧
    StrsIn w' (Zone.new w.heap.size w'.heap.size) (some ⟨g, 0, none⟩) x.net.stops ∧ LinesIn w' (Zone.new w.heap.size w'.heap.size) (some ⟨h, 0, none⟩) x.net.lines ∧ I3sIn w' (Zone.new w.heap.size w'.heap.size) (some ⟨k, 0, none⟩) x.trips ∧ Below w.heap.size w w'

set_option maxHeartbeats 1000000 in
theorem eqTimetable_same (x : TTD) (A L T A' L' T' : Option Addr) (ca cl ct ca' cl' ct' : Nat) (w : World) (h1 : StrsIn w (Zone.below w.heap.size) A x.net.stops) (h2 : LinesIn w (Zone.below w.heap.size) L x.net.lines) (h3 : I3sIn w (Zone.below w.heap.size) T x.trips)
    (h4 : StrsIn w (Zone.below w.heap.size) A' x.net.stops) (h5 : LinesIn w (Zone.below w.heap.size) L' x.net.lines) (h6 : I3sIn w (Zone.below w.heap.size) T' x.trips) (hx : FitsT x) :
    Calls Tryd.prog 12 #[.agg #[.slice A x.net.stops.length ca, .slice L x.net.lines.length cl, .slice T x.trips.length ct], .agg #[.slice A' x.net.stops.length ca', .slice L' x.net.lines.length cl', .slice T' x.trips.length ct']] w fun e w' => e = .returned (.bool true) ∧ Below w.heap.size w w' := by
  have H1 := Lib.hid h1
  have H2 := Lib.hid h2
  have H3 := Lib.hid h3
  have H4 := Lib.hid h4
  have H5 := Lib.hid h5
  have H6 := Lib.hid h6
  have hf := hx.net
  have ht := hx.trips
  clear h1 h2 h3 h4 h5 h6
  go_enter Tryd.func12, Tryd.ntmps12
  go_wp2_with fail
  refine (eqNetwork_same x.net _ _ _ _ _ _ _ _ _ (H1.out.call (by go_grown)) (H2.out.call (by go_grown)) (H4.out.call (by go_grown)) (H5.out.call (by go_grown)) hf).mono ?_
  rintro e w1 ⟨rfl, hb1⟩
  have HB1 : Hid (Below w.heap.size w w1) := bel_of (by go_grown) (by simp; omega) hb1
  obtain ⟨hc1, hf1, hl1⟩ := bcell3 hb1
  clear hb1
  go_wp2_with fail
  refine (eqTripS_same _ _ _ _ x.trips _ (H3.out.call HB1.out) (H6.out.call HB1.out) ht).mono ?_
  rintro e w2 ⟨rfl, hb2⟩
  have HB2 : Hid (Below w.heap.size w w2) := bel_of HB1.out HB1.out.size hb2
  clear hb2
  go_wp2_with fail
  go_ret
  exact ⟨rfl, HB2.out⟩

section
variable {H : Type} {enc : TypeId × Value → H} {P : Program} {W : World} {base : Nat} {sp : Nat → Bool} {held : Bool}
end
/-- What the laws know of a timetable that came in. -/
def LTt (W : World) (v : Value) (x : TTD) : Prop :=
  ∃ A ca L cl T ct, v = .agg #[.slice A x.net.stops.length ca, .slice L x.net.lines.length cl, .slice T x.trips.length ct] ∧ StrsIn W (Zone.below W.heap.size) A x.net.stops ∧ LinesIn W (Zone.below W.heap.size) L x.net.lines ∧ I3sIn W (Zone.below W.heap.size) T x.trips ∧
    x.net.stops.length ≤ 9223372036854775807 ∧ x.net.lines.length ≤ 9223372036854775807 ∧ (∀ k, k < x.net.stops.length → (nthS x.net.stops k).size ≤ 9223372036854775807) ∧ (∀ k, k < x.net.lines.length → lenLn (nthL x.net.lines k)) ∧ x.trips.length ≤ 9223372036854775807

theorem array3 {α : Type} {a : Array α} (h : a.size = 3) : ∃ x y z, a = #[x, y, z] := by
  obtain ⟨l⟩ := a
  match l, h with
  | [x, y, z], _ => exact ⟨x, y, z, rfl⟩

end Go.Proofs.YtpipegdjflniaaaDoor
