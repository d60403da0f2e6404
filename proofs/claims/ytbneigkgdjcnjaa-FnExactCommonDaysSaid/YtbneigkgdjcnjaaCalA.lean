/- Contracts of the laws' functions on lists of integers and on calendars: size, copy, comparison. -/
import Derived.Test.YtbneigkgdjcnjaaMem
namespace Go.Proofs.Ytbneigkgdjcnjaa
open Go.ChangeShapes Go.WideShapes Go.ChangeAt Go.RowKit Go.PlainAid
set_option linter.unusedVariables false

theorem Try.infoI : (Try.prog.info? 3).map (fun i => (i.zero, i.size, i.bytes)) = some (some (.int .i64 0), 1, 8) := by kernel_rfl

/-- What szIntS leaves. -/
def szI (n : Nat) (left : Int) : Int := if left - n < 0 then -1 else left - n
theorem szI_eq (n : Nat) (left : Int) : szI n left = if left - n < 0 then -1 else left - n := rfl
/-- What szCalendar leaves. -/
def szC (na nr : Nat) (left : Int) : Int := if szI na left < 0 then -1 else szI nr (szI na left)
theorem szIntS_any (A : Option Addr) (n c : Nat) (left : Int) (w : World) (h0 : 0 ≤ left) (h1 : left ≤ 1048576) (hn : n ≤ 9223372036854775807) :
    Calls Try.prog 94 #[.slice A n c, .int .i64 left] w fun e w' => e = .returned (.int .i64 (szI n left)) ∧ w = w' := by
  by_cases h : left - n < 0
  all_goals
    have H := Lib.hid (szI_eq n left)
    simp only [h, if_true, if_false] at H
    go_enter Try.func94, Try.ntmps94
    go_wp2
    go_ret
    exact ⟨retI H.out.symm, rfl⟩

/-- A slice in new memory that reads as xs. -/
def NewInts (xs : List Int) (w : World) (e : Ending) (w' : World) : Prop :=
  ∃ g, e = .returned (.slice (some ⟨g, 0, none⟩) xs.length xs.length) ∧ w.heap.size ≤ g ∧ g < w'.heap.size ∧ IntsAt w' w'.heap.size (some ⟨g, 0, none⟩) xs ∧ Below w.heap.size w w'

set_option maxHeartbeats 400000 in
theorem toIntS_any (A : Option Addr) (c : Nat) (xs : List Int) (w : World) (h : IntsAt w w.heap.size A xs) (hn : xs.length ≤ 1048576) :
    Calls Try.prog 46 #[.slice A xs.length c] w (NewInts xs w) := by
  obtain ⟨i0, hi, hz0, hz1, hz2⟩ := info_parts Try.infoI
  have hmk := fun W => run_make_n (P := Try.prog) 39 3 i0 _ Try.underlying39 hi hz0 xs.length 1 8 hz1 hz2 (by omega) (by omega) W
  have HX := Lib.hid h
  clear h
  go_enter Try.func46, Try.ntmps46
  go_wp2
  go_loopw [4] (fun i wr => ∃ k : Nat, k ≤ xs.length ∧ i = .int .i64 k ∧ Fill wr w.heap.size xs.length k (fun j => .int .i64 (nth xs j)) ∧ Below w.heap.size w wr) (fun i _ => xs.length - (intOf i).toNat)
  case atStart => exact ⟨0, Nat.zero_le _, rfl, Fill.made _ _ _ _ _, (Below.refl _ _).alloc (Nat.le_refl _) _⟩
  case round =>
    obtain ⟨k, hk, rfl, hf, hb⟩ := hrel
    have HF := Lib.hid hf
    have HB := Lib.hid hb
    by_cases hlt : k < xs.length
    · obtain ⟨b, o, rfl, hbl, hc⟩ := (HX.out.below hb).get hlt
      obtain ⟨v, hv⟩ := hf.there k (Nat.le_refl _) hlt
      have hfr := hf.free k
      clear hf hb
      go_wp2
      go_roundw
      case rel => exact ⟨k + 1, by omega, by go_num, HF.out.step hlt, HB.out.setCell (Nat.le_refl _) _⟩
      case measure => simp [intOf]; omega
    · obtain rfl : k = xs.length := by omega
      clear hf hb
      go_wp2
      go_ret
      exact ⟨_, rfl, Nat.le_refl _, HF.out.lt, IntsAt.of_fill HF.out rfl (Nat.le_refl _), HB.out⟩

set_option maxHeartbeats 400000 in
theorem eqIntS_same (A A' : Option Addr) (c c' : Nat) (xs : List Int) (w : World) (h : IntsAt w w.heap.size A xs) (h' : IntsAt w w.heap.size A' xs) (hn : xs.length ≤ 1048576) :
    Calls Try.prog 28 #[.slice A xs.length c, .slice A' xs.length c'] w fun e w' => e = .returned (.bool true) ∧ ∃ q, w' = w.drewN q := by
  have HX := Lib.hid h
  have HY := Lib.hid h'
  clear h h'
  go_enter Try.func28, Try.ntmps28
  go_wp2
  go_loopw [5] (fun i wr => ∃ k : Nat, k ≤ xs.length ∧ i = .int .i64 k ∧ ∃ q, wr = w.drewN q) (fun i _ => xs.length - (intOf i).toNat)
  case atStart => exact ⟨0, Nat.zero_le _, rfl, 0, rfl⟩
  case round =>
    obtain ⟨k, hk, rfl, q, rfl⟩ := hrel
    by_cases hlt : k < xs.length
    · obtain ⟨b, o, rfl, hbl, hc⟩ := HX.out.get hlt
      obtain ⟨b', o', rfl, hbl', hc'⟩ := HY.out.get hlt
      have hi1 : (k : Int) < (xs.length : Int) := by omega
      go_wp2
      go_quiet (fail)
      go_wp2
      go_roundw
      case rel => exact ⟨k + 1, by omega, by go_num, _, rfl⟩
      case measure => simp [intOf]; omega
    · obtain rfl : k = xs.length := by omega
      go_wp2
      go_ret
      exact ⟨rfl, q, rfl⟩

/-- A calendar's value: three numbers, two slices. -/
abbrev calV (f t d : Int) (A : Option Addr) (na ca : Nat) (R : Option Addr) (nr cr : Nat) : Value := .agg #[.int .i64 f, .int .i64 t, .int .i64 d, .slice A na ca, .slice R nr cr]

theorem szCalendar_any (f t d : Int) (A R : Option Addr) (na ca nr cr : Nat) (left : Int) (w : World) (h0 : 0 ≤ left) (h1 : left ≤ 1048576) (hn : na ≤ 9223372036854775807) (hm : nr ≤ 9223372036854775807) :
    Calls Try.prog 39 #[.agg #[.int .i64 f, .int .i64 t, .int .i64 d, .slice A na ca, .slice R nr cr], .int .i64 left] w fun e w' =>
      e = .returned (.int .i64 (szC na nr left)) ∧ w' = w.alloc (.cells #[.int .i64 f, .int .i64 t, .int .i64 d, .slice A na ca, .slice R nr cr] 52) := by
  have hs : szI na left ≤ 1048576 := by unfold szI; split <;> omega
  have hs2 : ¬ szI na left < 0 → 0 ≤ szI na left := by omega
  by_cases h : szI na left < 0
  · have H := Lib.hid (show szC na nr left = -1 by unfold szC; rw [if_pos h])
    go_enter Try.func39, Try.ntmps39
    go_wp2_with (go_at_call 94; refine (szIntS_any _ _ _ _ _ (by omega) (by omega) (by omega)).mono ?_; rintro e w1 ⟨rfl, rfl⟩)
    go_ret
    exact ⟨retI H.out.symm, rfl⟩
  · have hs3 := hs2 h
    have H := Lib.hid (show szC na nr left = szI nr (szI na left) by unfold szC; rw [if_neg h])
    clear hs2
    by_cases h2 : szI nr (szI na left) < 0
    · have h3 : szI nr (szI na left) = -1 := by unfold szI at h2 ⊢; split at h2 <;> omega
      have H3 := Lib.hid (H.out.trans h3)
      clear h3
      go_enter Try.func39, Try.ntmps39
      go_wp2_with (go_at_call 94; refine (szIntS_any _ _ _ _ _ (by omega) (by omega) (by omega)).mono ?_; rintro e w1 ⟨rfl, rfl⟩)
      go_ret
      exact ⟨retI H3.out.symm, rfl⟩
    · go_enter Try.func39, Try.ntmps39
      go_wp2_with (go_at_call 94; refine (szIntS_any _ _ _ _ _ (by omega) (by omega) (by omega)).mono ?_; rintro e w1 ⟨rfl, rfl⟩)
      go_ret
      exact ⟨retI H.out.symm, rfl⟩

/-- A calendar in new memory. -/
def NewCal (f t d : Int) (us vs : List Int) (w : World) (e : Ending) (w' : World) : Prop :=
  ∃ g h, e = .returned (.agg #[.int .i64 f, .int .i64 t, .int .i64 d, .slice (some ⟨g, 0, none⟩) us.length us.length, .slice (some ⟨h, 0, none⟩) vs.length vs.length]) ∧ w.heap.size ≤ g ∧ w.heap.size ≤ h ∧ g < h ∧
    IntsAt w' w'.heap.size (some ⟨g, 0, none⟩) us ∧ IntsAt w' w'.heap.size (some ⟨h, 0, none⟩) vs ∧ Below w.heap.size w w'

set_option maxHeartbeats 1000000 in
theorem toCalendar_any (f t d : Int) (A R : Option Addr) (ca cr : Nat) (us vs : List Int) (w : World) (h : IntsAt w w.heap.size A us) (h' : IntsAt w w.heap.size R vs) (hn : us.length ≤ 1048576) (hm : vs.length ≤ 1048576) :
    Calls Try.prog 41 #[.agg #[.int .i64 f, .int .i64 t, .int .i64 d, .slice A us.length ca, .slice R vs.length cr]] w (NewCal f t d us vs w) := by
  have HX := Lib.hid h
  have HY := Lib.hid h'
  clear h h'
  go_enter Try.func41, Try.ntmps41
  go_wp2_with fail
  refine (toIntS_any _ _ _ _ (HX.out.call (by go_grown)) hn).mono ?_
  rintro e w1 ⟨g, rfl, hg, hgl, hi1, hb1⟩
  have HB1 : Hid (Below w.heap.size w w1) := bel_of (by go_grown) (by simp; omega) hb1
  obtain ⟨hc1, hf1, hl1⟩ := bcell3 hb1
  have hz1 := hb1.size
  simp at hz1
  have hy0 : w.heap.size < w1.heap.size := by omega
  have hy1 : w.heap.size + 1 < w1.heap.size := by omega
  have hy2 : w.heap.size + 1 + 1 < w1.heap.size := by omega
  have HI1 := Lib.hid hi1
  clear hi1 hb1
  go_wp2_with fail
  refine (toIntS_any _ _ _ _ (HY.out.call ((HB1.out).setCell (by simp; omega) _)) hm).mono ?_
  rintro e w2 ⟨g2, rfl, hg2, hgl2, hi2, hb2⟩
  have HB2 : Hid (Below w.heap.size w w2) := bel_of (HB1.out.setCell (by simp; omega) _) (by simp; omega) hb2
  have HI1' : Hid (IntsAt w2 w2.heap.size (some ⟨g, 0, none⟩) us) := ((HI1.out.set (by simp at hg; simp; omega) _).more (Nat.le_of_eq (size_set _ _ _).symm)).call hb2
  obtain ⟨hc2, hf2, hl2⟩ := bcell3 hb2
  have hz2 := hb2.size
  simp at hz2
  have hv2 : w.heap.size + 1 + 1 < w2.heap.size := by omega
  have HI2 := Lib.hid hi2
  have HG : Hid (w.heap.size + 2 < g ∧ w.heap.size + 2 < g2 ∧ g < g2) := by
    simp at hg hg2
    exact ⟨by omega, by omega, by omega⟩
  have q0 : w2.cell? ⟨w.heap.size + 1, 0, none⟩ = some (.int .i64 0) := by go_simp
  have q1 : w2.cell? ⟨w.heap.size + 1, 1, none⟩ = some (.int .i64 0) := by go_simp
  have q2 : w2.cell? ⟨w.heap.size + 1, 2, none⟩ = some (.int .i64 0) := by go_simp
  have q3 : w2.cell? ⟨w.heap.size + 1, 3, none⟩ = some (.slice none 0 0) := by go_simp
  have q4 : w2.cell? ⟨w.heap.size + 1, 4, none⟩ = some (.slice none 0 0) := by go_simp
  have r0 : w2.cell? ⟨w.heap.size + 1 + 1, 0, none⟩ = some (.int .i64 f) := by first | go_simp | (rw [hc2 _ _ (by simp; omega)]; exact World.cell?_setCell_same _ _ _ (u := .slice none 0 0) (by go_simp))
  have r1 : w2.cell? ⟨w.heap.size + 1 + 1, 1, none⟩ = some (.int .i64 t) := by first | go_simp | (rw [hc2 _ _ (by simp; omega)]; exact World.cell?_setCell_same _ _ _ (u := .slice none 0 0) (by go_simp))
  have r2 : w2.cell? ⟨w.heap.size + 1 + 1, 2, none⟩ = some (.int .i64 d) := by first | go_simp | (rw [hc2 _ _ (by simp; omega)]; exact World.cell?_setCell_same _ _ _ (u := .slice none 0 0) (by go_simp))
  have r3 : w2.cell? ⟨w.heap.size + 1 + 1, 3, none⟩ = some (.slice (some ⟨g, 0, none⟩) us.length us.length) := by first | go_simp | (rw [hc2 _ _ (by simp; omega)]; exact World.cell?_setCell_same _ _ _ (u := .slice none 0 0) (by go_simp))
  have r4 : w2.cell? ⟨w.heap.size + 1 + 1, 4, none⟩ = some (.slice none 0 0) := by first | go_simp | (rw [hc2 _ _ (by simp; omega)]; exact World.cell?_setCell_same _ _ _ (u := .slice none 0 0) (by go_simp))
  have q5 : ∀ j, w2.frozen? ⟨w.heap.size + 1, j, none⟩ = false := fun j => by go_simp
  have q6 : ∀ j, w2.frozen? ⟨w.heap.size + 1 + 1, j, none⟩ = false := fun j => by go_simp
  clear hi2 hb2 hg hg2 hgl hgl2 hc1 hc2 hf1 hf2 hl1 hl2
  go_wp2_with fail
  refine bodyPost_ret (v := .agg #[.int .i64 f, .int .i64 t, .int .i64 d, .slice (some ⟨g, 0, none⟩) us.length us.length, .slice (some ⟨g2, 0, none⟩) vs.length vs.length]) (by simp [results, Try.results41, go_sem, q0, q1, q2, q3, q4]) rfl ?_
  have hg := HG.out
  refine ⟨g, g2, rfl, by omega, by omega, hg.2.2, ?_, ?_, ?_⟩
  · simp only [size_set]
    repeat' (refine IntsAt.set ?_ (by simp; omega) _)
    exact HI1'.out
  · simp only [size_set]
    repeat' (refine IntsAt.set ?_ (by simp; omega) _)
    exact HI2.out
  · repeat' (refine Below.setCell ?_ (by simp <;> omega) _)
    exact HB2.out

set_option maxHeartbeats 1000000 in
theorem eqCalendar_same (f t d : Int) (A R A' R' : Option Addr) (ca cr ca' cr' : Nat) (us vs : List Int) (w : World) (h1 : IntsAt w w.heap.size A us) (h2 : IntsAt w w.heap.size R vs) (h3 : IntsAt w w.heap.size A' us) (h4 : IntsAt w w.heap.size R' vs)
    (hn : us.length ≤ 1048576) (hm : vs.length ≤ 1048576) :
    Calls Try.prog 43 #[.agg #[.int .i64 f, .int .i64 t, .int .i64 d, .slice A us.length ca, .slice R vs.length cr], .agg #[.int .i64 f, .int .i64 t, .int .i64 d, .slice A' us.length ca', .slice R' vs.length cr']] w fun e w' => e = .returned (.bool true) ∧ Below w.heap.size w w' := by
  have H1 := Lib.hid h1
  have H2 := Lib.hid h2
  have H3 := Lib.hid h3
  have H4 := Lib.hid h4
  clear h1 h2 h3 h4
  go_enter Try.func43, Try.ntmps43
  go_wp2_with fail
  refine (eqIntS_same _ _ _ _ _ _ (H1.out.call (by go_grown)) (H3.out.call (by go_grown)) hn).mono ?_
  rintro e w1 ⟨rfl, q, rfl⟩
  go_wp2_with fail
  refine (eqIntS_same _ _ _ _ _ _ (H2.out.call (bel_drewN (by go_grown) _)) (H4.out.call (bel_drewN (by go_grown) _)) hm).mono ?_
  rintro e w1 ⟨rfl, q2, rfl⟩
  go_wp2_with fail
  go_ret
  exact ⟨rfl, bel_drewN (by go_grown) _⟩
end Go.Proofs.Ytbneigkgdjcnjaa
