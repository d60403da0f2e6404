/- Lines and networks in memory: size, copy, comparison. -/
import Derived.Test.YtemhcobjhpifpaaZon
namespace Go.Proofs.Ytemhcobjhpifpaa
open Go.ChangeShapes Go.WideShapes Go.ChangeAt Go.RowKit Go.PlainAid
set_option linter.unusedVariables false

structure LineD where
  name : ByteArray
  stops : List Int
  runs : List Int
instance : Inhabited LineD := ⟨⟨ByteArray.empty, [], []⟩⟩
structure NetD where
  stops : List ByteArray
  lines : List LineD
instance : Inhabited NetD := ⟨⟨[], []⟩⟩
/-- A line's value. -/
abbrev lineV (x : LineD) (A : Option Addr) (ca : Nat) (R : Option Addr) (cr : Nat) : Value := .agg #[.string x.name, .slice A x.stops.length ca, .slice R x.runs.length cr]
/-- A capacity that a length fits. -/
def CapOk (n c : Nat) : Prop := n ≤ c ∧ c ≤ 9223372036854775807
/-- How a line reads. -/
def eLine : Rd LineD := fun w Z b o x => ∃ A ca R cr, w.cell? ⟨b, o, none⟩ = some (.string x.name) ∧ w.cell? ⟨b, o + 1, none⟩ = some (.slice A x.stops.length ca) ∧ w.cell? ⟨b, o + 2, none⟩ = some (.slice R x.runs.length cr) ∧
  IntsIn w (Z.sub b) A x.stops ∧ IntsIn w (Z.sub b) R x.runs ∧ CapOk x.stops.length ca ∧ CapOk x.runs.length cr
theorem eLine_keep {w w' : World} {Z : Zone} {b o : Nat} {x : LineD} (h : eLine w Z b o x) (hs : ∀ c, (Z.sub b).ok c → Same w w' c) (hc : ∀ i, i < 3 → w'.cell? ⟨b, o + i, none⟩ = w.cell? ⟨b, o + i, none⟩) : eLine w' Z b o x := by
  obtain ⟨A, ca, R, cr, h0, h1, h2, h3, h4, h5⟩ := h
  exact ⟨A, ca, R, cr, (hc 0 (by omega)).trans h0, (hc 1 (by omega)).trans h1, (hc 2 (by omega)).trans h2, h3.keep hs, h4.keep hs, h5⟩
instance : RdOk eLine := ⟨fun hs hb h => eLine_keep h hs (fun i _ => (hb _).1), fun hz h => by
  obtain ⟨A, ca, R, cr, h0, h1, h2, h3, h4, h5⟩ := h
  exact ⟨A, ca, R, cr, h0, h1, h2, h3.mono (Zone.sub_le hz _), h4.mono (Zone.sub_le hz _), h5⟩⟩
theorem Zone.sub_le_self (Z : Zone) (b : Nat) : (∀ c, (Z.sub b).ok c → Z.ok c) ∧ (Z.soft → (Z.sub b).soft) := ⟨fun _ h => h.1, fun h => h⟩
theorem Zone.sub_le' (Z : Zone) (b : Nat) : (Z.sub b).le Z := Zone.sub_le_self Z b
/-- The k-th line. -/
def nthL (xs : List LineD) (k : Nat) : LineD := xs.getD k default
def at3 (j : Nat) : Nat := j * 3
abbrev LinesIn (w : World) (Z : Zone) (A : Option Addr) (xs : List LineD) : Prop := Sl eLine at3 w Z A xs
theorem LinesIn.line {w : World} {Z : Zone} {A : Option Addr} {xs : List LineD} (h : LinesIn w Z A xs) {k : Nat} (hk : k < xs.length) :
    ∃ b o, A = some ⟨b, o, none⟩ ∧ Z.ok b ∧ ∃ A ca R cr, w.cell? ⟨b, o + k * 3, none⟩ = some (.string (nthL xs k).name) ∧ w.cell? ⟨b, o + k * 3 + 1, none⟩ = some (.slice A (nthL xs k).stops.length ca) ∧ w.cell? ⟨b, o + k * 3 + 2, none⟩ = some (.slice R (nthL xs k).runs.length cr) ∧
      IntsIn w Z A (nthL xs k).stops ∧ IntsIn w Z R (nthL xs k).runs := by
  obtain ⟨b, o, e, hb, A, ca, R, cr, h0, h1, h2, h3, h4, _⟩ := h.get hk
  exact ⟨b, o, e, hb, A, ca, R, cr, h0, h1, h2, h3.mono (Zone.sub_le' _ _), h4.mono (Zone.sub_le' _ _)⟩
theorem LinesIn.lineC {w : World} {Z : Zone} {A : Option Addr} {xs : List LineD} (h : LinesIn w Z A xs) {k : Nat} (hk : k < xs.length) :
    ∃ b o, A = some ⟨b, o, none⟩ ∧ Z.ok b ∧ ∃ A ca R cr, w.cell? ⟨b, o + k * 3, none⟩ = some (.string (nthL xs k).name) ∧ w.cell? ⟨b, o + k * 3 + 1, none⟩ = some (.slice A (nthL xs k).stops.length ca) ∧ w.cell? ⟨b, o + k * 3 + 2, none⟩ = some (.slice R (nthL xs k).runs.length cr) ∧
      IntsIn w Z A (nthL xs k).stops ∧ IntsIn w Z R (nthL xs k).runs ∧ CapOk (nthL xs k).stops.length ca ∧ CapOk (nthL xs k).runs.length cr := by
  obtain ⟨b, o, e, hb, A, ca, R, cr, h0, h1, h2, h3, h4, h5⟩ := h.get hk
  exact ⟨b, o, e, hb, A, ca, R, cr, h0, h1, h2, h3.mono (Zone.sub_le' _ _), h4.mono (Zone.sub_le' _ _), h5⟩

/-! ### Sizes -/
def szLn (x : LineD) : Nat := x.name.size + x.stops.length + x.runs.length
def szLns (xs : List LineD) : Nat := xs.length + upto (fun j => szLn (nthL xs j)) xs.length
def szNet (x : NetD) : Nat := szSs x.stops + szLns x.lines
/-- Lengths that Go's int holds. -/
def lenLn (x : LineD) : Prop := x.name.size ≤ 9223372036854775807 ∧ x.stops.length ≤ 9223372036854775807 ∧ x.runs.length ≤ 9223372036854775807

theorem szI_neg {a b : Nat} {left : Int} (h : szI a left < 0) : szI (a + b) left = -1 := by unfold szI at h ⊢; split at h <;> split <;> omega
theorem szI_neg' {a : Nat} {left : Int} (h : szI a left < 0) : szI a left = -1 := by unfold szI at h ⊢; split at h <;> omega
theorem szI_le {a : Nat} {left : Int} (h : left ≤ 1048576) : szI a left ≤ 1048576 := by unfold szI; split <;> omega
theorem szI_lo {a : Nat} {left : Int} (h : 0 ≤ left) : -1 ≤ szI a left := by unfold szI; split <;> omega
theorem szI_pos {a : Nat} {left : Int} (h : ¬ szI a left < 0) : szI a left = left - a := by unfold szI at h ⊢; split at h <;> omega

set_option maxHeartbeats 1000000 in
theorem szLine_any (x : LineD) (A R : Option Addr) (ca cr : Nat) (left : Int) (w : World) (h0 : 0 ≤ left) (h1 : left ≤ 1048576) (hl : lenLn x) :
    Calls Try.prog 35 #[.agg #[.string x.name, .slice A x.stops.length ca, .slice R x.runs.length cr], .int .i64 left] w fun e w' =>
      e = .returned (.int .i64 (szI (szLn x) left)) ∧ Below w.heap.size w w' := by
  obtain ⟨l0, l1, l2⟩ := hl
  by_cases ha : left - x.name.size < 0
  · have H := Lib.hid (show szI (szLn x) left = -1 by unfold szLn szI; rw [if_pos (by omega)])
    go_enter Try.func35, Try.ntmps35
    go_wp2_with fail
    go_ret
    exact ⟨retI H.out.symm, by go_grown⟩
  · have hb0 : szI x.stops.length (left - x.name.size) ≤ 1048576 := szI_le (by omega)
    have hb1 := szI_lo (a := x.stops.length) (left := left - x.name.size) (by omega)
    by_cases hb : szI x.stops.length (left - x.name.size) < 0
    · have H := Lib.hid (show szI (szLn x) left = -1 by unfold szLn; unfold szI at hb ⊢; split at hb <;> split <;> omega)
      go_enter Try.func35, Try.ntmps35
      go_wp2_with (go_at_call 46; refine (szIntS_any _ _ _ _ _ (by omega) (by omega) (by omega)).mono ?_; rintro e w1 ⟨rfl, rfl⟩)
      go_ret
      exact ⟨retI H.out.symm, by go_grown⟩
    · by_cases hc : szI x.runs.length (szI x.stops.length (left - x.name.size)) < 0
      all_goals
        have H := Lib.hid (show szI (szLn x) left = if szI x.runs.length (szI x.stops.length (left - x.name.size)) < 0 then -1 else szI x.runs.length (szI x.stops.length (left - x.name.size)) by unfold szLn; unfold szI at hb hc ⊢; split at hb <;> split at hc <;> split <;> (try split) <;> omega)
        simp only [hc, if_true, if_false] at H
        go_enter Try.func35, Try.ntmps35
        go_wp2_with (go_at_call 46; refine (szIntS_any _ _ _ _ _ (by omega) (by omega) (by omega)).mono ?_; rintro e w1 ⟨rfl, rfl⟩)
        go_ret
        exact ⟨retI H.out.symm, by go_grown⟩

/-- A line in new memory. -/
def NewLine (x : LineD) (w : World) (e : Ending) (w' : World) : Prop :=
  ∃ g h, e = .returned (.agg #[.string x.name, .slice (some ⟨g, 0, none⟩) x.stops.length x.stops.length, .slice (some ⟨h, 0, none⟩) x.runs.length x.runs.length]) ∧
    IntsIn w' (Zone.new w.heap.size w'.heap.size) (some ⟨g, 0, none⟩) x.stops ∧ IntsIn w' (Zone.new w.heap.size w'.heap.size) (some ⟨h, 0, none⟩) x.runs ∧ Below w.heap.size w w'

set_option maxHeartbeats 1000000 in
theorem toLine_new (x : LineD) (A R : Option Addr) (ca cr : Nat) (w : World) (h : IntsIn w (Zone.below w.heap.size) A x.stops) (h' : IntsIn w (Zone.below w.heap.size) R x.runs) (hn : x.stops.length ≤ 1048576) (hm : x.runs.length ≤ 1048576) :
    Calls Try.prog 41 #[.agg #[.string x.name, .slice A x.stops.length ca, .slice R x.runs.length cr]] w (NewLine x w) := by
  have HX := Lib.hid h
  have HY := Lib.hid h'
  clear h h'
  go_enter Try.func41, Try.ntmps41
  go_wp2_with fail
  refine (toIntS_new _ _ _ _ (HX.out.call (by go_grown)) hn).mono ?_
  rintro e w1 ⟨g, rfl, hg, hgl, hi1, hb1⟩
  have HB1 : Hid (Below w.heap.size w w1) := bel_of (by go_grown) (by simp; omega) hb1
  obtain ⟨hc1, hf1, hl1⟩ := bcell3 hb1
  have hz1 := hb1.size
  simp at hz1
  have hy0 : w.heap.size < w1.heap.size := by omega
  have hy1 : w.heap.size + 1 < w1.heap.size := by omega
  have hy2 : w.heap.size + 1 + 1 < w1.heap.size := by omega
  have HI1 : Hid (IntsIn w1 (Zone.new (w.heap.size + 3) w1.heap.size) (some ⟨g, 0, none⟩) x.stops) := hi1.mono (Zone.new_le (by simp) (Nat.le_refl _))
  clear hi1 hb1
  go_wp2_with fail
  refine (toIntS_new _ _ _ _ (HY.out.call ((HB1.out).setCell (by simp; omega) _)) hm).mono ?_
  rintro e w2 ⟨g2, rfl, hg2, hgl2, hi2, hb2⟩
  have HB2 : Hid (Below w.heap.size w w2) := bel_of (HB1.out.setCell (by simp; omega) _) (by simp; omega) hb2
  obtain ⟨hc2, hf2, hl2⟩ := bcell3 hb2
  have hz2 := hb2.size
  simp at hz2
  have HI1' : Hid (IntsIn w2 (Zone.new (w.heap.size + 3) w2.heap.size) (some ⟨g, 0, none⟩) x.stops) := ((HI1.out.new_set (Or.inl (by simp <;> omega)) _).new_call hb2 (by simp)).mono (Zone.new_le (Nat.le_refl _) hz2)
  have hv2 : w.heap.size + 1 + 1 < w2.heap.size := by omega
  have HI2 : Hid (IntsIn w2 (Zone.new (w.heap.size + 3) w2.heap.size) (some ⟨g2, 0, none⟩) x.runs) := hi2.mono (Zone.new_le (by simp at hg2 ⊢ <;> omega) (Nat.le_refl _))
  have q0 : w2.cell? ⟨w.heap.size + 1, 0, none⟩ = some (.string ⟨#[]⟩) := by go_simp
  have q1 : w2.cell? ⟨w.heap.size + 1, 1, none⟩ = some (.slice none 0 0) := by go_simp
  have q2 : w2.cell? ⟨w.heap.size + 1, 2, none⟩ = some (.slice none 0 0) := by go_simp
  have r0 : w2.cell? ⟨w.heap.size + 1 + 1, 0, none⟩ = some (.string x.name) := by first | go_simp | (rw [hc2 _ _ (by simp; omega)]; exact World.cell?_setCell_same _ _ _ (u := .slice none 0 0) (by go_simp))
  have r1 : w2.cell? ⟨w.heap.size + 1 + 1, 1, none⟩ = some (.slice (some ⟨g, 0, none⟩) x.stops.length x.stops.length) := by first | go_simp | (rw [hc2 _ _ (by simp; omega)]; exact World.cell?_setCell_same _ _ _ (u := .slice none 0 0) (by go_simp))
  have r2 : w2.cell? ⟨w.heap.size + 1 + 1, 2, none⟩ = some (.slice none 0 0) := by first | go_simp | (rw [hc2 _ _ (by simp; omega)]; exact World.cell?_setCell_same _ _ _ (u := .slice none 0 0) (by go_simp))
  have q5 : ∀ j, w2.frozen? ⟨w.heap.size + 1, j, none⟩ = false := fun j => by go_simp
  have q6 : ∀ j, w2.frozen? ⟨w.heap.size + 1 + 1, j, none⟩ = false := fun j => by go_simp
  clear hi2 hb2 hg hg2 hgl hgl2 hc1 hc2 hf1 hf2 hl1 hl2
  go_wp2_with fail
  refine bodyPost_ret (v := .agg #[.string x.name, .slice (some ⟨g, 0, none⟩) x.stops.length x.stops.length, .slice (some ⟨g2, 0, none⟩) x.runs.length x.runs.length]) (by simp [results, Try.results41, go_sem, q0, q1, q2]) rfl ?_
  refine ⟨g, g2, rfl, ?_, ?_, ?_⟩
  · simp only [size_set]
    refine Sl.mono (Z := Zone.new (w.heap.size + 3) w2.heap.size) ?_ (Zone.new_le (by omega) (Nat.le_refl _))
    repeat' (refine Sl.new_set ?_ (Or.inl (by simp <;> omega)) _)
    exact HI1'.out
  · simp only [size_set]
    refine Sl.mono (Z := Zone.new (w.heap.size + 3) w2.heap.size) ?_ (Zone.new_le (by omega) (Nat.le_refl _))
    repeat' (refine Sl.new_set ?_ (Or.inl (by simp <;> omega)) _)
    exact HI2.out
  · repeat' (refine Below.setCell ?_ (by simp <;> omega) _)
    exact HB2.out

set_option maxHeartbeats 1000000 in
theorem eqLine_same (x : LineD) (A R A' R' : Option Addr) (ca cr ca' cr' : Nat) (w : World) (h1 : IntsIn w (Zone.below w.heap.size) A x.stops) (h2 : IntsIn w (Zone.below w.heap.size) R x.runs) (h3 : IntsIn w (Zone.below w.heap.size) A' x.stops) (h4 : IntsIn w (Zone.below w.heap.size) R' x.runs)
    (hn : x.stops.length ≤ 1048576) (hm : x.runs.length ≤ 1048576) :
    Calls Try.prog 44 #[.agg #[.string x.name, .slice A x.stops.length ca, .slice R x.runs.length cr], .agg #[.string x.name, .slice A' x.stops.length ca', .slice R' x.runs.length cr']] w fun e w' => e = .returned (.bool true) ∧ Below w.heap.size w w' := by
  have H1 := Lib.hid h1
  have H2 := Lib.hid h2
  have H3 := Lib.hid h3
  have H4 := Lib.hid h4
  clear h1 h2 h3 h4
  go_enter Try.func44, Try.ntmps44
  go_wp2_with fail
  refine (eqIntS_same _ _ _ _ _ _ (IntsIn.at (H1.out.call (by go_grown))) (IntsIn.at (H3.out.call (by go_grown))) hn).mono ?_
  rintro e w1 ⟨rfl, q, rfl⟩
  go_wp2_with fail
  refine (eqIntS_same _ _ _ _ _ _ (IntsIn.at (H2.out.call (bel_drewN (by go_grown) _))) (IntsIn.at (H4.out.call (bel_drewN (by go_grown) _))) hm).mono ?_
  rintro e w1 ⟨rfl, q2, rfl⟩
  go_wp2_with fail
  go_ret
  exact ⟨rfl, bel_drewN (by go_grown) _⟩

set_option maxHeartbeats 1000000 in
theorem szLineS_any (A : Option Addr) (c : Nat) (xs : List LineD) (left : Int) (w : World) (h : LinesIn w (Zone.below w.heap.size) A xs) (h0 : 0 ≤ left) (h1 : left ≤ 1048576) (hn : xs.length ≤ 9223372036854775807) (hns : ∀ k, k < xs.length → lenLn (nthL xs k)) :
    Calls Try.prog 18 #[.slice A xs.length c, .int .i64 left] w fun e w' => e = .returned (.int .i64 (szI (szLns xs) left)) ∧ Below w.heap.size w w' := by
  have HX := Lib.hid h
  clear h
  by_cases hs : left - xs.length < 0
  · have H := Lib.hid (show szI (szLns xs) left = -1 by unfold szI szLns; rw [if_pos (by omega)])
    go_enter Try.func18, Try.ntmps18
    go_wp2
    go_ret
    exact ⟨retI H.out.symm, Below.refl _ _⟩
  · go_enter Try.func18, Try.ntmps18
    go_wp2
    go_loopw [1, 5] (fun l i wr => ∃ k : Nat, k ≤ xs.length ∧ i = .int .i64 k ∧ (∃ L : Int, l = .int .i64 L ∧ L = left - xs.length - upto (fun j => szLn (nthL xs j)) k ∧ 0 ≤ L) ∧ Below w.heap.size w wr) (fun l i _ => xs.length - (intOf i).toNat)
    case atStart => exact ⟨0, Nat.zero_le _, rfl, ⟨left - xs.length, by simp, by simp [upto], by omega⟩, Below.refl _ _⟩
    case round =>
      obtain ⟨k, hk, rfl, ⟨L, rfl, hL, hl⟩, hb⟩ := hrel
      have HL := Lib.hid hL
      have HB := Lib.hid hb
      have hl2 : L ≤ 1048576 := by omega
      by_cases hlt : k < xs.length
      · obtain ⟨b, o, rfl, hbl, A', ca, R', cr, hc0, hc1, hc2, _, _⟩ := LinesIn.line (HX.out.at_below hb) hlt
        have HU := Lib.hid (show upto (fun j => szLn (nthL xs j)) (k + 1) = upto (fun j => szLn (nthL xs j)) k + szLn (nthL xs k) from rfl)
        have hs1 := szI_le (a := szLn (nthL xs k)) hl2
        have hs2 := szI_lo (a := szLn (nthL xs k)) hl
        clear hL hb
        by_cases hz : szI (szLn (nthL xs k)) L < 0
        · have H := Lib.hid (show szI (szLns xs) left = -1 by
            have hle := upto_le (fun j => szLn (nthL xs j)) (k := k + 1) (n := xs.length) hlt
            have h1 := HU.out
            have h2 := HL.out
            unfold szI at hz ⊢
            unfold szLns
            rw [if_pos]
            split at hz <;> omega)
          go_wp2_with fail
          refine (szLine_any _ _ _ _ _ _ _ hl hl2 (hns k hlt)).mono ?_
          rintro e w1 ⟨rfl, hb1⟩
          go_wp2_with fail
          go_ret
          exact ⟨retI H.out.symm, HB.out.trans (hb1.mono HB.out.size)⟩
        · have H := Lib.hid (szI_pos hz)
          go_wp2_with fail
          refine (szLine_any _ _ _ _ _ _ _ hl hl2 (hns k hlt)).mono ?_
          rintro e w1 ⟨rfl, hb1⟩
          have HB1 : Hid (Below w.heap.size w w1) := HB.out.trans (hb1.mono HB.out.size)
          clear hb1
          go_wp2_with fail
          go_roundw
          case rel => exact ⟨k + 1, by omega, by go_num, ⟨_, rfl, by rw [H.out, HL.out, HU.out]; omega, by omega⟩, HB1.out⟩
          case measure => simp [intOf]; omega
      · obtain rfl : k = xs.length := by omega
        have H := Lib.hid (show szI (szLns xs) left = L by have h2 := HL.out; unfold szI szLns; rw [if_neg (by omega)]; omega)
        clear hL hb
        go_wp2_with fail
        go_ret
        exact ⟨retI H.out.symm, HB.out⟩
end Go.Proofs.Ytemhcobjhpifpaa
