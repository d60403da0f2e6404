/- Lines and networks in memory: size, copy, comparison. -/
import Derived.Test.YtpipegdjflniaaaDoorZon
namespace Go.Proofs.YtpipegdjflniaaaDoor
open Go.ChangeShapes Go.WideShapes Go.ChangeAt Go.RowKit Go.PlainAid
set_option linter.unusedVariables false

structure LineD where
  name : ByteArray
  stops : List Int
  runs : List Int
instance : Inhabited LineD := ⟨⟨ByteArray.empty, [], []⟩⟩
structure NetD where
  stops : List ByteArray
  lines : List LineD
instance : Inhabited NetD := ⟨⟨[], []⟩⟩
/-- A line's value. -/
abbrev lineV (x : LineD) (A : Option Addr) (ca : Nat) (R : Option Addr) (cr : Nat) : Value := .agg #[.string x.name, .slice A x.stops.length ca, .slice R x.runs.length cr]
/-- A capacity that a length fits. -/
def CapOk (n c : Nat) : Prop := n ≤ c ∧ c ≤ 9223372036854775807
/-- How a line reads. -/
def eLine : Rd LineD := fun w Z b o x => ∃ A ca R cr, w.cell? ⟨b, o, none⟩ = some (.string x.name) ∧ w.cell? ⟨b, o + 1, none⟩ = some (.slice A x.stops.length ca) ∧ w.cell? ⟨b, o + 2, none⟩ = some (.slice R x.runs.length cr) ∧
  IntsIn w (Z.sub b) A x.stops ∧ IntsIn w (Z.sub b) R x.runs ∧ CapOk x.stops.length ca ∧ CapOk x.runs.length cr
theorem eLine_keep {w w' : World} {Z : Zone} {b o : Nat} {x : LineD} (h : eLine w Z b o x) (hs : ∀ c, (Z.sub b).ok c → Same w w' c) (hc : ∀ i, i < 3 → w'.cell? ⟨b, o + i, none⟩ = w.cell? ⟨b, o + i, none⟩) : eLine w' Z b o x := by
  obtain ⟨A, ca, R, cr, h0, h1, h2, h3, h4, h5⟩ := h
  exact ⟨A, ca, R, cr, (hc 0 (by omega)).trans h0, (hc 1 (by omega)).trans h1, (hc 2 (by omega)).trans h2, h3.keep hs, h4.keep hs, h5⟩
instance : RdOk eLine := ⟨fun hs hb h => eLine_keep h hs (fun i _ => (hb _).1), fun hz h => by
  obtain ⟨A, ca, R, cr, h0, h1, h2, h3, h4, h5⟩ := h
  exact ⟨A, ca, R, cr, h0, h1, h2, h3.mono (Zone.sub_le hz _), h4.mono (Zone.sub_le hz _), h5⟩⟩
theorem Zone.sub_le_self (Z : Zone) (b : Nat) : (∀ c, (Z.sub b).ok c → Z.ok c) ∧ (Z.soft → (Z.sub b).soft) := ⟨fun _ h => h.1, fun h => h⟩
theorem Zone.sub_le' (Z : Zone) (b : Nat) : (Z.sub b).le Z := Zone.sub_le_self Z b
/-- The k-th line. -/
def nthL (xs : List LineD) (k : Nat) : LineD := xs.getD k default
def at3 (j : Nat) : Nat := j * 3
abbrev LinesIn (w : World) (Z : Zone) (A : Option Addr) (xs : List LineD) : Prop := Sl eLine at3 w Z A xs
theorem LinesIn.line {w : World} {Z : Zone} {A : Option Addr} {xs : List LineD} (h : LinesIn w Z A xs) {k : Nat} (hk : k < xs.length) :
    ∃ b o, A = some ⟨b, o, none⟩ ∧ Z.ok b ∧ ∃ A ca R cr, w.cell? ⟨b, o + k * 3, none⟩ = some (.string (nthL xs k).name) ∧ w.cell? ⟨b, o + k * 3 + 1, none⟩ = some (.slice A (nthL xs k).stops.length ca) ∧ w.cell? ⟨b, o + k * 3 + 2, none⟩ = some (.slice R (nthL xs k).runs.length cr) ∧
      IntsIn w Z A (nthL xs k).stops ∧ IntsIn w Z R (nthL xs k).runs := by
  obtain ⟨b, o, e, hb, A, ca, R, cr, h0, h1, h2, h3, h4, _⟩ := h.get hk
  exact ⟨b, o, e, hb, A, ca, R, cr, h0, h1, h2, h3.mono (Zone.sub_le' _ _), h4.mono (Zone.sub_le' _ _)⟩
theorem LinesIn.lineC {w : World} {Z : Zone} {A : Option Addr} {xs : List LineD} (h : LinesIn w Z A xs) {k : Nat} (hk : k < xs.length) :
    ∃ b o, A = some ⟨b, o, none⟩ ∧ Z.ok b ∧ ∃ A ca R cr, w.cell? ⟨b, o + k * 3, none⟩ = some (.string (nthL xs k).name) ∧ w.cell? ⟨b, o + k * 3 + 1, none⟩ = some (.slice A (nthL xs k).stops.length ca) ∧ w.cell? ⟨b, o + k * 3 + 2, none⟩ = some (.slice R (nthL xs k).runs.length cr) ∧
      IntsIn w Z A (nthL xs k).stops ∧ IntsIn w Z R (nthL xs k).runs ∧ CapOk (nthL xs k).stops.length ca ∧ CapOk (nthL xs k).runs.length cr := by
  obtain ⟨b, o, e, hb, A, ca, R, cr, h0, h1, h2, h3, h4, h5⟩ := h.get hk
  exact ⟨b, o, e, hb, A, ca, R, cr, h0, h1, h2, h3.mono (Zone.sub_le' _ _), h4.mono (Zone.sub_le' _ _), h5⟩

/-! ### Sizes -/
def szLn (x : LineD) : Nat := x.name.size + x.stops.length + x.runs.length
def szLns (xs : List LineD) : Nat := xs.length + upto (fun j => szLn (nthL xs j)) xs.length
def szNet (x : NetD) : Nat := szSs x.stops + szLns x.lines
/-- Lengths that Go's int holds. -/
def lenLn (x : LineD) : Prop := x.name.size ≤ 9223372036854775807 ∧ x.stops.length ≤ 9223372036854775807 ∧ x.runs.length ≤ 9223372036854775807

theorem szI_neg {a b : Nat} {left : Int} (h : szI a left < 0) : szI (a + b) left = -1 := by unfold szI at h ⊢; split at h <;> split <;> omega
theorem szI_neg' {a : Nat} {left : Int} (h : szI a left < 0) : szI a left = -1 := by unfold szI at h ⊢; split at h <;> omega
theorem szI_le {a : Nat} {left : Int} (h : left ≤ 1048576) : szI a left ≤ 1048576 := by unfold szI; split <;> omega
theorem szI_lo {a : Nat} {left : Int} (h : 0 ≤ left) : -1 ≤ szI a left := by unfold szI; split <;> omega
theorem szI_pos {a : Nat} {left : Int} (h : ¬ szI a left < 0) : szI a left = left - a := by unfold szI at h ⊢; split at h <;> omega

/-- A line in new memory. -/
def NewLine (x : LineD) (w : World) (e : Ending) (w' : World) : Prop :=
  ∃ g h, e = .returned (.agg #[.string x.name, .slice (some ⟨g, 0, none⟩) x.stops.length x.stops.length, .slice (some ⟨h, 0, none⟩) x.runs.length x.runs.length]) ∧
    IntsIn w' (Zone.new w.heap.size w'.heap.size) (some ⟨g, 0, none⟩) x.stops ∧ IntsIn w' (Zone.new w.heap.size w'.heap.size) (some ⟨h, 0, none⟩) x.runs ∧ Below w.heap.size w w'

set_option maxHeartbeats 1000000 in
theorem eqLine_same (x : LineD) (A R A' R' : Option Addr) (ca cr ca' cr' : Nat) (w : World) (h1 : IntsIn w (Zone.below w.heap.size) A x.stops) (h2 : IntsIn w (Zone.below w.heap.size) R x.runs) (h3 : IntsIn w (Zone.below w.heap.size) A' x.stops) (h4 : IntsIn w (Zone.below w.heap.size) R' x.runs)
    (hn : x.stops.length ≤ 1048576) (hm : x.runs.length ≤ 1048576) :
    Calls Tryd.prog 38 #[.agg #[.string x.name, .slice A x.stops.length ca, .slice R x.runs.length cr], .agg #[.string x.name, .slice A' x.stops.length ca', .slice R' x.runs.length cr']] w fun e w' => e = .returned (.bool true) ∧ Below w.heap.size w w' := by
  have H1 := Lib.hid h1
  have H2 := Lib.hid h2
  have H3 := Lib.hid h3
  have H4 := Lib.hid h4
  clear h1 h2 h3 h4
  go_enter Tryd.func38, Tryd.ntmps38
  go_wp2_with fail
  refine (eqIntS_same _ _ _ _ _ _ (IntsIn.at (H1.out.call (by go_grown))) (IntsIn.at (H3.out.call (by go_grown))) hn).mono ?_
  rintro e w1 ⟨rfl, q, rfl⟩
  go_wp2_with fail
  refine (eqIntS_same _ _ _ _ _ _ (IntsIn.at (H2.out.call (bel_drewN (by go_grown) _))) (IntsIn.at (H4.out.call (bel_drewN (by go_grown) _))) hm).mono ?_
  rintro e w1 ⟨rfl, q2, rfl⟩
  go_wp2_with fail
  go_ret
  exact ⟨rfl, bel_drewN (by go_grown) _⟩

end Go.Proofs.YtpipegdjflniaaaDoor
