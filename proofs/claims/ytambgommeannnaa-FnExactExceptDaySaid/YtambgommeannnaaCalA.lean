/- Contracts of the laws' functions on calendars: size, copy, comparison. -/
import Derived.Test.YtambgommeannnaaInA
namespace Go.Proofs.Ytambgommeannnaa
open Go.ChangeShapes Go.WideShapes Go.ChangeAt Go.RowKit Go.PlainAid
set_option linter.unusedVariables false

/-- What szCalendar leaves. -/
def szC (na nr : Nat) (left : Int) : Int := if szI na left < 0 then -1 else szI nr (szI na left)
/-- A calendar's value: three numbers, two slices. -/
abbrev calV (f t d : Int) (A : Option Addr) (na ca : Nat) (R : Option Addr) (nr cr : Nat) : Value := .agg #[.int .i64 f, .int .i64 t, .int .i64 d, .slice A na ca, .slice R nr cr]

theorem szCalendar_any (f t d : Int) (A R : Option Addr) (na ca nr cr : Nat) (left : Int) (w : World) (h0 : 0 ≤ left) (h1 : left ≤ 1048576) (hn : na ≤ 9223372036854775807) (hm : nr ≤ 9223372036854775807) :
    Calls Try.prog 32 #[.agg #[.int .i64 f, .int .i64 t, .int .i64 d, .slice A na ca, .slice R nr cr], .int .i64 left] w fun e w' =>
      e = .returned (.int .i64 (szC na nr left)) ∧ w' = w.alloc (.cells #[.int .i64 f, .int .i64 t, .int .i64 d, .slice A na ca, .slice R nr cr] 56) := by
  have hs : szI na left ≤ 1048576 := by unfold szI; split <;> omega
  have hs2 : ¬ szI na left < 0 → 0 ≤ szI na left := by omega
  by_cases h : szI na left < 0
  · have H := Lib.hid (show szC na nr left = -1 by unfold szC; rw [if_pos h])
    go_enter Try.func32, Try.ntmps32
    go_wp2_with (go_at_call 99; refine (szIntS_any _ _ _ _ _ (by omega) (by omega) (by omega)).mono ?_; rintro e w1 ⟨rfl, rfl⟩)
    go_ret
    exact ⟨retI H.out.symm, rfl⟩
  · have hs3 := hs2 h
    have H := Lib.hid (show szC na nr left = szI nr (szI na left) by unfold szC; rw [if_neg h])
    clear hs2
    by_cases h2 : szI nr (szI na left) < 0
    · have h3 : szI nr (szI na left) = -1 := by unfold szI at h2 ⊢; split at h2 <;> omega
      have H3 := Lib.hid (H.out.trans h3)
      clear h3
      go_enter Try.func32, Try.ntmps32
      go_wp2_with (go_at_call 99; refine (szIntS_any _ _ _ _ _ (by omega) (by omega) (by omega)).mono ?_; rintro e w1 ⟨rfl, rfl⟩)
      go_ret
      exact ⟨retI H3.out.symm, rfl⟩
    · go_enter Try.func32, Try.ntmps32
      go_wp2_with (go_at_call 99; refine (szIntS_any _ _ _ _ _ (by omega) (by omega) (by omega)).mono ?_; rintro e w1 ⟨rfl, rfl⟩)
      go_ret
      exact ⟨retI H.out.symm, rfl⟩

/-- A calendar in new memory. -/
def NewCal (f t d : Int) (us vs : List Int) (w : World) (e : Ending) (w' : World) : Prop :=
  ∃ g h, e = .returned (.agg #[.int .i64 f, .int .i64 t, .int .i64 d, .slice (some ⟨g, 0, none⟩) us.length us.length, .slice (some ⟨h, 0, none⟩) vs.length vs.length]) ∧ w.heap.size ≤ g ∧ w.heap.size ≤ h ∧ g < h ∧
    IntsAt w' w'.heap.size (some ⟨g, 0, none⟩) us ∧ IntsAt w' w'.heap.size (some ⟨h, 0, none⟩) vs ∧ Below w.heap.size w w'

set_option maxHeartbeats 1000000 in
theorem toCalendar_any (f t d : Int) (A R : Option Addr) (ca cr : Nat) (us vs : List Int) (w : World) (h : IntsAt w w.heap.size A us) (h' : IntsAt w w.heap.size R vs) (hn : us.length ≤ 1048576) (hm : vs.length ≤ 1048576) :
    Calls Try.prog 34 #[.agg #[.int .i64 f, .int .i64 t, .int .i64 d, .slice A us.length ca, .slice R vs.length cr]] w (NewCal f t d us vs w) := by
  have HX := Lib.hid h
  have HY := Lib.hid h'
  clear h h'
  go_enter Try.func34, Try.ntmps34
  go_wp2_with fail
  refine (toIntS_any _ _ _ _ (HX.out.call (by go_grown)) hn).mono ?_
  rintro e w1 ⟨g, rfl, hg, hgl, hi1, hb1⟩
  have HB1 : Hid (Below w.heap.size w w1) := bel_of (by go_grown) (by simp; omega) hb1
  obtain ⟨hc1, hf1, hl1⟩ := bcell3 hb1
  have hz1 := hb1.size
  simp at hz1
  have hy0 : w.heap.size < w1.heap.size := by omega
  have hy1 : w.heap.size + 1 < w1.heap.size := by omega
  have hy2 : w.heap.size + 1 + 1 < w1.heap.size := by omega
  have HI1 := Lib.hid hi1
  clear hi1 hb1
  go_wp2_with fail
  refine (toIntS_any _ _ _ _ (HY.out.call ((HB1.out).setCell (by simp; omega) _)) hm).mono ?_
  rintro e w2 ⟨g2, rfl, hg2, hgl2, hi2, hb2⟩
  have HB2 : Hid (Below w.heap.size w w2) := bel_of (HB1.out.setCell (by simp; omega) _) (by simp; omega) hb2
  have HI1' : Hid (IntsAt w2 w2.heap.size (some ⟨g, 0, none⟩) us) := ((HI1.out.set (by simp at hg; simp; omega) _).more (Nat.le_of_eq (size_set _ _ _).symm)).call hb2
  obtain ⟨hc2, hf2, hl2⟩ := bcell3 hb2
  have hz2 := hb2.size
  simp at hz2
  have hv2 : w.heap.size + 1 + 1 < w2.heap.size := by omega
  have HI2 := Lib.hid hi2
  have HG : Hid (w.heap.size + 2 < g ∧ w.heap.size + 2 < g2 ∧ g < g2) := by
    simp at hg hg2
    exact ⟨by omega, by omega, by omega⟩
  have q0 : w2.cell? ⟨w.heap.size + 1, 0, none⟩ = some (.int .i64 0) := by go_simp
  have q1 : w2.cell? ⟨w.heap.size + 1, 1, none⟩ = some (.int .i64 0) := by go_simp
  have q2 : w2.cell? ⟨w.heap.size + 1, 2, none⟩ = some (.int .i64 0) := by go_simp
  have q3 : w2.cell? ⟨w.heap.size + 1, 3, none⟩ = some (.slice none 0 0) := by go_simp
  have q4 : w2.cell? ⟨w.heap.size + 1, 4, none⟩ = some (.slice none 0 0) := by go_simp
  have r0 : w2.cell? ⟨w.heap.size + 1 + 1, 0, none⟩ = some (.int .i64 f) := by first | go_simp | (rw [hc2 _ _ (by simp; omega)]; exact World.cell?_setCell_same _ _ _ (u := .slice none 0 0) (by go_simp))
  have r1 : w2.cell? ⟨w.heap.size + 1 + 1, 1, none⟩ = some (.int .i64 t) := by first | go_simp | (rw [hc2 _ _ (by simp; omega)]; exact World.cell?_setCell_same _ _ _ (u := .slice none 0 0) (by go_simp))
  have r2 : w2.cell? ⟨w.heap.size + 1 + 1, 2, none⟩ = some (.int .i64 d) := by first | go_simp | (rw [hc2 _ _ (by simp; omega)]; exact World.cell?_setCell_same _ _ _ (u := .slice none 0 0) (by go_simp))
  have r3 : w2.cell? ⟨w.heap.size + 1 + 1, 3, none⟩ = some (.slice (some ⟨g, 0, none⟩) us.length us.length) := by first | go_simp | (rw [hc2 _ _ (by simp; omega)]; exact World.cell?_setCell_same _ _ _ (u := .slice none 0 0) (by go_simp))
  have r4 : w2.cell? ⟨w.heap.size + 1 + 1, 4, none⟩ = some (.slice none 0 0) := by first | go_simp | (rw [hc2 _ _ (by simp; omega)]; exact World.cell?_setCell_same _ _ _ (u := .slice none 0 0) (by go_simp))
  have q5 : ∀ j, w2.frozen? ⟨w.heap.size + 1, j, none⟩ = false := fun j => by go_simp
  have q6 : ∀ j, w2.frozen? ⟨w.heap.size + 1 + 1, j, none⟩ = false := fun j => by go_simp
  clear hi2 hb2 hg hg2 hgl hgl2 hc1 hc2 hf1 hf2 hl1 hl2
  go_wp2_with fail
  refine bodyPost_ret (v := .agg #[.int .i64 f, .int .i64 t, .int .i64 d, .slice (some ⟨g, 0, none⟩) us.length us.length, .slice (some ⟨g2, 0, none⟩) vs.length vs.length]) (by simp [results, Try.results34, go_sem, q0, q1, q2, q3, q4]) rfl ?_
  have hg := HG.out
  refine ⟨g, g2, rfl, by omega, by omega, hg.2.2, ?_, ?_, ?_⟩
  · simp only [size_set]
    repeat' (refine IntsAt.set ?_ (by simp; omega) _)
    exact HI1'.out
  · simp only [size_set]
    repeat' (refine IntsAt.set ?_ (by simp; omega) _)
    exact HI2.out
  · repeat' (refine Below.setCell ?_ (by simp <;> omega) _)
    exact HB2.out

set_option maxHeartbeats 1000000 in
theorem eqCalendar_same (f t d : Int) (A R A' R' : Option Addr) (ca cr ca' cr' : Nat) (us vs : List Int) (w : World) (h1 : IntsAt w w.heap.size A us) (h2 : IntsAt w w.heap.size R vs) (h3 : IntsAt w w.heap.size A' us) (h4 : IntsAt w w.heap.size R' vs)
    (hn : us.length ≤ 1048576) (hm : vs.length ≤ 1048576) :
    Calls Try.prog 18 #[.agg #[.int .i64 f, .int .i64 t, .int .i64 d, .slice A us.length ca, .slice R vs.length cr], .agg #[.int .i64 f, .int .i64 t, .int .i64 d, .slice A' us.length ca', .slice R' vs.length cr']] w fun e w' => e = .returned (.bool true) ∧ Below w.heap.size w w' := by
  have H1 := Lib.hid h1
  have H2 := Lib.hid h2
  have H3 := Lib.hid h3
  have H4 := Lib.hid h4
  clear h1 h2 h3 h4
  go_enter Try.func18, Try.ntmps18
  go_wp2_with fail
  refine (eqIntS_same _ _ _ _ _ _ (H1.out.call (by go_grown)) (H3.out.call (by go_grown)) hn).mono ?_
  rintro e w1 ⟨rfl, q, rfl⟩
  go_wp2_with fail
  refine (eqIntS_same _ _ _ _ _ _ (H2.out.call (bel_drewN (by go_grown) _)) (H4.out.call (bel_drewN (by go_grown) _)) hm).mono ?_
  rintro e w1 ⟨rfl, q2, rfl⟩
  go_wp2_with fail
  go_ret
  exact ⟨rfl, bel_drewN (by go_grown) _⟩
end Go.Proofs.Ytambgommeannnaa
