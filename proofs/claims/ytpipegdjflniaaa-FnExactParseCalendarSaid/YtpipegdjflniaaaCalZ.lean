/- Calendars in zones: boxes, copy, comparison, marks. -/
import Derived.Test.YtpipegdjflniaaaCalM
import Derived.Test.YtpipegdjflniaaaMrk
namespace Go.Proofs.Ytpipegdjflniaaa
open Go.ChangeShapes Go.WideShapes Go.ChangeAt Go.RowKit Go.PlainAid
set_option linter.unusedVariables false

/-- A calendar in new memory. -/
def NewCalZ (f t d : Int) (us vs : List Int) (w : World) (e : Ending) (w' : World) : Prop :=
  ∃ g h, e = .returned (.agg #[.int .i64 f, .int .i64 t, .int .i64 d, .slice (some ⟨g, 0, none⟩) us.length us.length, .slice (some ⟨h, 0, none⟩) vs.length vs.length]) ∧ g < h ∧
    IntsIn w' (Zone.new w.heap.size w'.heap.size) (some ⟨g, 0, none⟩) us ∧ IntsIn w' (Zone.new w.heap.size w'.heap.size) (some ⟨h, 0, none⟩) vs ∧ Below w.heap.size w w'

theorem eqCalendar_sameZ (f t d : Int) (A R A' R' : Option Addr) (ca cr ca' cr' : Nat) (us vs : List Int) (w : World) (h1 : IntsIn w (Zone.below w.heap.size) A us) (h2 : IntsIn w (Zone.below w.heap.size) R vs) (h3 : IntsIn w (Zone.below w.heap.size) A' us) (h4 : IntsIn w (Zone.below w.heap.size) R' vs)
    (hn : us.length ≤ 1048576) (hm : vs.length ≤ 1048576) :
    Calls Try.prog 6 #[.agg #[.int .i64 f, .int .i64 t, .int .i64 d, .slice A us.length ca, .slice R vs.length cr], .agg #[.int .i64 f, .int .i64 t, .int .i64 d, .slice A' us.length ca', .slice R' vs.length cr']] w fun e w' => e = .returned (.bool true) ∧ Below w.heap.size w w' :=
  eqCalendar_same f t d A R A' R' ca cr ca' cr' us vs w (IntsIn.at h1) (IntsIn.at h2) (IntsIn.at h3) (IntsIn.at h4) hn hm

set_option maxHeartbeats 1000000 in
theorem markCalendar_any (lo hi : Nat) (f t d : Int) (A R : Option Addr) (ca cr : Nat) (us vs : List Int) (K : Nat) (w : World) (h1 : IntsIn w (Zone.new lo hi) A us) (h2 : IntsIn w (Zone.new lo hi) R vs) (hh : hi ≤ w.heap.size) (hn : us.length ≤ 1048576) (hm : vs.length ≤ 1048576) (hK : K ≤ 1048576 * 1048576 - 4 * 1048576) :
    Calls Try.prog 7 #[.agg #[.int .i64 f, .int .i64 t, .int .i64 d, .slice A us.length ca, .slice R vs.length cr], .int .i64 (K : Nat)] w fun e w' => e = .returned (.int .i64 ((K + (us.length + vs.length) : Nat) : Int)) ∧ Mk lo hi w w' := by
  have hb : Below w.heap.size w (w.alloc (.cells #[.int .i64 f, .int .i64 t, .int .i64 d, .slice A us.length ca, .slice R vs.length cr] 24)) := by go_grown
  have hz : w.heap.size < (w.alloc (.cells #[.int .i64 f, .int .i64 t, .int .i64 d, .slice A us.length ca, .slice R vs.length cr] 24)).heap.size := by simp
  have HM0 : Hid (Mk lo hi w (w.alloc (.cells #[.int .i64 f, .int .i64 t, .int .i64 d, .slice A us.length ca, .slice R vs.length cr] 24))) := Lib.hid (Mk.of_below hb hh)
  have HR := Lib.hid (h2.new_call hb hh)
  have hq := markIntS_any lo hi A ca us K _ (h1.new_call hb hh) hn (by omega)
  push_cast at hq
  have HQ := Lib.hid hq
  have hc : (w.alloc (.cells #[.int .i64 f, .int .i64 t, .int .i64 d, .slice A us.length ca, .slice R vs.length cr] 24)).cell? ⟨w.heap.size, 4, none⟩ = some (.slice R vs.length cr) := by go_simp
  have HC := Lib.hid hc
  clear hq hb h1 h2 hc
  go_enter Try.func7, Try.ntmps7
  go_wp2_with fail
  refine HQ.out.mono ?_
  rintro e w1 ⟨rfl, hm1, _⟩
  have HM1 := Lib.hid (HM0.out.trans hm1)
  have hc : w1.cell? ⟨w.heap.size, 4, none⟩ = some (.slice R vs.length cr) := (hm1.same (b := w.heap.size) (.inr hh) hz 4).1.trans HC.out
  obtain ⟨ys, hy, hi1⟩ := IntsIn.mk HR.out hm1 (fun _ b hb => hb)
  have hq := markIntS_any lo hi R cr ys (K + us.length) _ hi1 (by omega) (by omega)
  rw [hy] at hq
  push_cast at hq
  have HQ2 := Lib.hid hq
  clear hm1 hi1 hq hy
  go_wp2_with fail
  refine HQ2.out.mono ?_
  rintro e w2 ⟨rfl, hm2, _⟩
  have HM2 := Lib.hid (HM1.out.trans hm2)
  clear hm2 hc
  go_wp2_with fail
  go_ret
  exact ⟨retI (by push_cast; omega), HM2.out⟩

/-- A calendar that came in, its box at g; w0: the world at the call. -/
structure CalBox (w0 w : World) (g : Nat) (f t d : Int) (us vs : List Int) (A : Option Addr) (ca : Nat) (R : Option Addr) (cr : Nat) : Prop where
  bel : Below w0.heap.size w0 w
  cells : Cal5 w g f t d A us.length ca R vs.length cr
  us0 : IntsIn w (Zone.below w0.heap.size) A us
  vs0 : IntsIn w (Zone.below w0.heap.size) R vs
  lt : g < w.heap.size
  le : w0.heap.size ≤ g
section
variable {w0 w w' : World} {g B : Nat} {f t d : Int} {us vs : List Int} {A R : Option Addr} {ca cr : Nat}
theorem CalBox.usA (h : CalBox w0 w g f t d us vs A ca R cr) : IntsAt w w.heap.size A us := IntsIn.at (h.us0.mono (Zone.below_le h.bel.size))
theorem CalBox.vsA (h : CalBox w0 w g f t d us vs A ca R cr) : IntsAt w w.heap.size R vs := IntsIn.at (h.vs0.mono (Zone.below_le h.bel.size))
theorem CalBox.callB (h : CalBox w0 w g f t d us vs A ca R cr) (hb : Below B w w') (hg : g < B) : CalBox w0 w' g f t d us vs A ca R cr :=
  have hl := h.le
  have hb' : Below w0.heap.size w w' := hb.mono (by omega)
  ⟨h.bel.trans hb', h.cells.below hb hg, h.us0.at_below hb', h.vs0.at_below hb', Nat.lt_of_lt_of_le h.lt hb.size, h.le⟩
theorem CalBox.call (h : CalBox w0 w g f t d us vs A ca R cr) (hb : Below w.heap.size w w') : CalBox w0 w' g f t d us vs A ca R cr := h.callB hb h.lt
end
end Go.Proofs.Ytpipegdjflniaaa
