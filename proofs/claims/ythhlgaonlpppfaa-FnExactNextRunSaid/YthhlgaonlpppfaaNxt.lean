/- The walk of the law of NextRun. -/
import Derived.Test.YthhlgaonlpppfaaRunC
import Derived.Test.YthhlgaonlpppfaaOpenC
namespace Go.Proofs.Ythhlgaonlpppfaa
open Go.ChangeShapes Go.WideShapes Go.ChangeAt Go.RowKit Go.PlainAid
set_option linter.unusedVariables false

theorem l1Most_lt (a b : Int) (w : World) (h : a < b) :
    Calls Try.prog 55 #[.int .i64 a, .int .i64 b] w fun e w' => e = .returned (.int .i64 b) ∧ w = w' := by
  go_enter Try.func55, Try.ntmps55
  go_wp2
  go_ret
  exact ⟨rfl, rfl⟩
theorem l1Most_ge (a b : Int) (w : World) (h : ¬ a < b) :
    Calls Try.prog 55 #[.int .i64 a, .int .i64 b] w fun e w' => e = .returned (.int .i64 a) ∧ w = w' := by
  by_cases h2 : b < a
  · go_enter Try.func55, Try.ntmps55
    go_wp2
    go_ret
    exact ⟨rfl, rfl⟩
  · obtain rfl : a = b := by omega
    go_enter Try.func55, Try.ntmps55
    go_wp2
    go_ret
    exact ⟨rfl, rfl⟩
/-- The first day to look at. -/
def nrS (f day : Int) : Int := if day < f then f else day
def nrI (f t d : Int) (us vs : List Int) (day : Int) : Int := ixN (t + 1 - nrS f day).toNat (fun k => runB f t d us vs (nrS f day + k))
def nrB (f t d : Int) (us vs : List Int) (day : Int) : Bool := calB f t d us vs && inB day 0 3650 && decide (0 ≤ nrI f t d us vs day)
def nrV (f t d : Int) (us vs : List Int) (day : Int) : Int := if nrB f t d us vs day = true then nrS f day + nrI f t d us vs day else 0
theorem nr_no {f t d : Int} {us vs : List Int} {day : Int} (h : calB f t d us vs = false ∨ inB day 0 3650 = false) : nrV f t d us vs day = 0 ∧ nrB f t d us vs day = false := by
  have : nrB f t d us vs day = false := by unfold nrB; rcases h with h | h <;> rw [h] <;> simp
  unfold nrV
  rw [this]
  exact ⟨rfl, rfl⟩
theorem nr_yes {f t d : Int} {us vs : List Int} {day s : Int} (h1 : calB f t d us vs = true) (h2 : inB day 0 3650 = true) (hs : nrS f day = s) (k : Nat) (hk : s + k ≤ t) (hr : runB f t d us vs (s + k) = true) (ha : ∀ j : Nat, j < k → runB f t d us vs (s + j) = false) :
    nrV f t d us vs day = s + k ∧ nrB f t d us vs day = true := by
  have hi : nrI f t d us vs day = k := by unfold nrI; rw [hs]; exact ixN_hit (by omega) hr ha
  have hb : nrB f t d us vs day = true := by unfold nrB; rw [h1, h2, hi]; simp
  unfold nrV
  rw [hb, hi, hs]
  exact ⟨rfl, rfl⟩
theorem nr_none {f t d : Int} {us vs : List Int} {day s : Int} (h1 : calB f t d us vs = true) (h2 : inB day 0 3650 = true) (hs : nrS f day = s) (ha : ∀ j : Nat, s + j ≤ t → runB f t d us vs (s + j) = false) :
    nrV f t d us vs day = 0 ∧ nrB f t d us vs day = false := by
  have hi : nrI f t d us vs day = -1 := by unfold nrI; rw [hs]; exact ixN_none (fun j hj => ha j (by omega))
  have hb : nrB f t d us vs day = false := by unfold nrB; rw [hi]; simp
  unfold nrV
  rw [hb]
  exact ⟨rfl, rfl⟩

set_option maxRecDepth 100000 in
set_option maxHeartbeats 4000000 in
theorem specNextRun_any (f t d : Int) (A R : Option Addr) (ca cr : Nat) (us vs : List Int) (day : Int) (w : World) (h1 : IntsAt w w.heap.size A us) (h2 : IntsAt w w.heap.size R vs) (hn : us.length ≤ 1048576) (hm : vs.length ≤ 1048576) :
    Calls Try.prog 20 #[.agg #[.int .i64 f, .int .i64 t, .int .i64 d, .slice A us.length ca, .slice R vs.length cr], .int .i64 day] w fun e w' => e = .returned (.tuple #[.int .i64 (nrV f t d us vs day), .bool (nrB f t d us vs day)]) ∧ Below w.heap.size w w' := by
  have H1 := Lib.hid h1
  have H2 := Lib.hid h2
  clear h1 h2
  cases g1 : calB f t d us vs
  · have HF := Lib.hid (nr_no (f := f) (t := t) (d := d) (us := us) (vs := vs) (day := day) (.inl g1))
    go_enter Try.func20, Try.ntmps20
    go_wp2_with fail
    refine (l3Good_any _ _ _ _ _ _ _ _ _ _ (H1.out.call (by go_grown)) (H2.out.call (by go_grown)) hn hm).mono ?_
    rintro e W ⟨rfl, hb1⟩
    have HC : Hid (Cal5 W w.heap.size f t d A us.length ca R vs.length cr) := Cal5.below (B := _) ⟨by go_simp, by go_simp, by go_simp, by go_simp, by go_simp⟩ hb1 (by simp)
    have HB1 : Hid (Below w.heap.size w W) := bel_of (by go_grown) (by simp) hb1
    have hs1 : w.heap.size < W.heap.size := by have := hb1.size; simp at this; omega
    have H1' := Lib.hid (H1.out.call HB1.out)
    have H2' := Lib.hid (H2.out.call HB1.out)
    clear hb1
    go_wp2_with fail
    go_ret2
    exact ⟨by rw [HF.out.1, HF.out.2]; rfl, HB1.out⟩
  · cases g2 : inB day 0 3650
    · have HF := Lib.hid (nr_no (f := f) (t := t) (d := d) (us := us) (vs := vs) (day := day) (.inr g2))
      go_enter Try.func20, Try.ntmps20
      go_wp2_with fail
      refine (l3Good_any _ _ _ _ _ _ _ _ _ _ (H1.out.call (by go_grown)) (H2.out.call (by go_grown)) hn hm).mono ?_
      rintro e W ⟨rfl, hb1⟩
      have HC : Hid (Cal5 W w.heap.size f t d A us.length ca R vs.length cr) := Cal5.below (B := _) ⟨by go_simp, by go_simp, by go_simp, by go_simp, by go_simp⟩ hb1 (by simp)
      have HB1 : Hid (Below w.heap.size w W) := bel_of (by go_grown) (by simp) hb1
      have hs1 : w.heap.size < W.heap.size := by have := hb1.size; simp at this; omega
      have H1' := Lib.hid (H1.out.call HB1.out)
      have H2' := Lib.hid (H2.out.call HB1.out)
      clear hb1
      go_wp2_with (first | (go_at_call 50; refine (l3Day_any _ _).mono ?_; rintro e w2 ⟨rfl, rfl⟩))
      go_ret2
      exact ⟨by rw [HF.out.1, HF.out.2]; rfl, HB1.out⟩
    · have g3 := inB_iff.1 g2
      have HO := Lib.hid (calB_ok g1)
      have hh := HO.out.1
      unfold HeadB at hh
      obtain ⟨k1, k2, k3, k4, k5, _, _⟩ := hh
      by_cases hs : day < f
      · have HY := Lib.hid (fun k => nr_yes (f := f) (t := t) (d := d) (us := us) (vs := vs) (day := day) (s := f) g1 g2 (by unfold nrS; rw [if_pos hs]) k)
        have HN := Lib.hid (nr_none (f := f) (t := t) (d := d) (us := us) (vs := vs) (day := day) (s := f) g1 g2 (by unfold nrS; rw [if_pos hs]))
        go_enter Try.func20, Try.ntmps20
        go_wp2_with fail
        refine (l3Good_any _ _ _ _ _ _ _ _ _ _ (H1.out.call (by go_grown)) (H2.out.call (by go_grown)) hn hm).mono ?_
        rintro e W ⟨rfl, hb1⟩
        have HC : Hid (Cal5 W w.heap.size f t d A us.length ca R vs.length cr) := Cal5.below (B := _) ⟨by go_simp, by go_simp, by go_simp, by go_simp, by go_simp⟩ hb1 (by simp)
        have HB1 : Hid (Below w.heap.size w W) := bel_of (by go_grown) (by simp) hb1
        have hs1 : w.heap.size < W.heap.size := by have := hb1.size; simp at this; omega
        have H1' := Lib.hid (H1.out.call HB1.out)
        have H2' := Lib.hid (H2.out.call HB1.out)
        clear hb1
        obtain ⟨c0, c1, c2, c3, c4⟩ := HC.out
        go_wp2_with (first | (go_at_call 50; refine (l3Day_any _ _).mono ?_; rintro e w2 ⟨rfl, rfl⟩) | (go_at_call 55; refine (l1Most_lt _ _ _ (by omega)).mono ?_; rintro e w2 ⟨rfl, rfl⟩) | fail)
        clear c0 c1 c2 c3 c4
        go_loopw [6] (fun i wr => ∃ k : Nat, (f + k ≤ t + 1 ∨ k = 0) ∧ i = .int .i64 (f + k) ∧ (∀ j : Nat, j < k → runB f t d us vs (f + j) = false) ∧ Below W.heap.size W wr) (fun i _ => (t + 1 - intOf i).toNat)
        case atStart => exact ⟨0, by omega, by go_num, fun j hj => by omega, Below.refl _ _⟩
        case round =>
          obtain ⟨k, hk, rfl, ha, hb⟩ := hrel
          have HB := Lib.hid hb
          have HA := Lib.hid ha
          obtain ⟨c0, c1, c2, c3, c4⟩ := HC.out.below hb hs1
          clear hb ha
          by_cases hle : f + k ≤ t
          · cases hr : runB f t d us vs (f + k)
            · go_wp2_with (first | (go_at_call 51; refine (l3RunsC _ _ _ _ _ _ _ _ _ _ _ (H1'.out.call HB.out) (H2'.out.call HB.out) hn hm HO.out (by omega) (by omega)).mono ?_; rintro e w2 ⟨rfl, hb2⟩; have HB2 := Lib.hid (bel_call HB.out hb2); clear hb2))
              go_roundw
              case rel => exact ⟨k + 1, by omega, by go_num, fun j hj => by (by_cases e : j = k; (rw [e]; exact hr); exact HA.out j (by omega)), HB2.out⟩
              case measure => simp [intOf]; omega
            · have HZ := Lib.hid (HY.out k hle hr HA.out)
              go_wp2_with (first | (go_at_call 51; refine (l3RunsC _ _ _ _ _ _ _ _ _ _ _ (H1'.out.call HB.out) (H2'.out.call HB.out) hn hm HO.out (by omega) (by omega)).mono ?_; rintro e w2 ⟨rfl, hb2⟩; have HB2 := Lib.hid (bel_call HB.out hb2); clear hb2))
              go_ret2
              exact ⟨by rw [HZ.out.1, HZ.out.2]; rfl, bel_of HB1.out (by omega) HB2.out⟩
          · have HZ := Lib.hid (HN.out (fun j hj => HA.out j (by omega)))
            go_wp2_with fail
            go_ret2
            exact ⟨by rw [HZ.out.1, HZ.out.2]; rfl, bel_of HB1.out (by omega) HB.out⟩
      · have HY := Lib.hid (fun k => nr_yes (f := f) (t := t) (d := d) (us := us) (vs := vs) (day := day) (s := day) g1 g2 (by unfold nrS; rw [if_neg hs]) k)
        have HN := Lib.hid (nr_none (f := f) (t := t) (d := d) (us := us) (vs := vs) (day := day) (s := day) g1 g2 (by unfold nrS; rw [if_neg hs]))
        go_enter Try.func20, Try.ntmps20
        go_wp2_with fail
        refine (l3Good_any _ _ _ _ _ _ _ _ _ _ (H1.out.call (by go_grown)) (H2.out.call (by go_grown)) hn hm).mono ?_
        rintro e W ⟨rfl, hb1⟩
        have HC : Hid (Cal5 W w.heap.size f t d A us.length ca R vs.length cr) := Cal5.below (B := _) ⟨by go_simp, by go_simp, by go_simp, by go_simp, by go_simp⟩ hb1 (by simp)
        have HB1 : Hid (Below w.heap.size w W) := bel_of (by go_grown) (by simp) hb1
        have hs1 : w.heap.size < W.heap.size := by have := hb1.size; simp at this; omega
        have H1' := Lib.hid (H1.out.call HB1.out)
        have H2' := Lib.hid (H2.out.call HB1.out)
        clear hb1
        obtain ⟨c0, c1, c2, c3, c4⟩ := HC.out
        go_wp2_with (first | (go_at_call 50; refine (l3Day_any _ _).mono ?_; rintro e w2 ⟨rfl, rfl⟩) | (go_at_call 55; refine (l1Most_ge _ _ _ (by omega)).mono ?_; rintro e w2 ⟨rfl, rfl⟩) | fail)
        clear c0 c1 c2 c3 c4
        go_loopw [6] (fun i wr => ∃ k : Nat, (day + k ≤ t + 1 ∨ k = 0) ∧ i = .int .i64 (day + k) ∧ (∀ j : Nat, j < k → runB f t d us vs (day + j) = false) ∧ Below W.heap.size W wr) (fun i _ => (t + 1 - intOf i).toNat)
        case atStart => exact ⟨0, by omega, by go_num, fun j hj => by omega, Below.refl _ _⟩
        case round =>
          obtain ⟨k, hk, rfl, ha, hb⟩ := hrel
          have HB := Lib.hid hb
          have HA := Lib.hid ha
          obtain ⟨c0, c1, c2, c3, c4⟩ := HC.out.below hb hs1
          clear hb ha
          by_cases hle : day + k ≤ t
          · cases hr : runB f t d us vs (day + k)
            · go_wp2_with (first | (go_at_call 51; refine (l3RunsC _ _ _ _ _ _ _ _ _ _ _ (H1'.out.call HB.out) (H2'.out.call HB.out) hn hm HO.out (by omega) (by omega)).mono ?_; rintro e w2 ⟨rfl, hb2⟩; have HB2 := Lib.hid (bel_call HB.out hb2); clear hb2))
              go_roundw
              case rel => exact ⟨k + 1, by omega, by go_num, fun j hj => by (by_cases e : j = k; (rw [e]; exact hr); exact HA.out j (by omega)), HB2.out⟩
              case measure => simp [intOf]; omega
            · have HZ := Lib.hid (HY.out k hle hr HA.out)
              go_wp2_with (first | (go_at_call 51; refine (l3RunsC _ _ _ _ _ _ _ _ _ _ _ (H1'.out.call HB.out) (H2'.out.call HB.out) hn hm HO.out (by omega) (by omega)).mono ?_; rintro e w2 ⟨rfl, hb2⟩; have HB2 := Lib.hid (bel_call HB.out hb2); clear hb2))
              go_ret2
              exact ⟨by rw [HZ.out.1, HZ.out.2]; rfl, bel_of HB1.out (by omega) HB2.out⟩
          · have HZ := Lib.hid (HN.out (fun j hj => HA.out j (by omega)))
            go_wp2_with fail
            go_ret2
            exact ⟨by rw [HZ.out.1, HZ.out.2]; rfl, bel_of HB1.out (by omega) HB.out⟩

set_option maxRecDepth 100000 in
set_option maxHeartbeats 4000000 in
theorem implNextRun_any (f t d : Int) (A R : Option Addr) (ca cr : Nat) (us vs : List Int) (day : Int) (w : World) (h1 : IntsAt w w.heap.size A us) (h2 : IntsAt w w.heap.size R vs) (hn : us.length ≤ 1048576) (hm : vs.length ≤ 1048576) :
    Calls Try.prog 21 #[.agg #[.int .i64 f, .int .i64 t, .int .i64 d, .slice A us.length ca, .slice R vs.length cr], .int .i64 day] w fun e w' => e = .returned (.tuple #[.int .i64 (nrV f t d us vs day), .bool (nrB f t d us vs day)]) ∧ Below w.heap.size w w' := by
  have H1 := Lib.hid h1
  have H2 := Lib.hid h2
  clear h1 h2
  cases g1 : calB f t d us vs
  · have HF := Lib.hid (nr_no (f := f) (t := t) (d := d) (us := us) (vs := vs) (day := day) (.inl g1))
    go_enter Try.func21, Try.ntmps21
    go_wp2_with fail
    refine (isValidCalendar_any _ _ _ _ _ _ _ _ _ _ (H1.out.call (by go_grown)) (H2.out.call (by go_grown)) hn hm).mono ?_
    rintro e W ⟨rfl, hb1⟩
    have HC : Hid (Cal5 W w.heap.size f t d A us.length ca R vs.length cr) := Cal5.below (B := _) ⟨by go_simp, by go_simp, by go_simp, by go_simp, by go_simp⟩ hb1 (by simp)
    have HB1 : Hid (Below w.heap.size w W) := bel_of (by go_grown) (by simp) hb1
    have hs1 : w.heap.size < W.heap.size := by have := hb1.size; simp at this; omega
    have H1' := Lib.hid (H1.out.call HB1.out)
    have H2' := Lib.hid (H2.out.call HB1.out)
    clear hb1
    go_wp2_with fail
    go_ret2
    exact ⟨by rw [HF.out.1, HF.out.2]; rfl, HB1.out⟩
  · cases g2 : inB day 0 3650
    · have HF := Lib.hid (nr_no (f := f) (t := t) (d := d) (us := us) (vs := vs) (day := day) (.inr g2))
      go_enter Try.func21, Try.ntmps21
      go_wp2_with fail
      refine (isValidCalendar_any _ _ _ _ _ _ _ _ _ _ (H1.out.call (by go_grown)) (H2.out.call (by go_grown)) hn hm).mono ?_
      rintro e W ⟨rfl, hb1⟩
      have HC : Hid (Cal5 W w.heap.size f t d A us.length ca R vs.length cr) := Cal5.below (B := _) ⟨by go_simp, by go_simp, by go_simp, by go_simp, by go_simp⟩ hb1 (by simp)
      have HB1 : Hid (Below w.heap.size w W) := bel_of (by go_grown) (by simp) hb1
      have hs1 : w.heap.size < W.heap.size := by have := hb1.size; simp at this; omega
      have H1' := Lib.hid (H1.out.call HB1.out)
      have H2' := Lib.hid (H2.out.call HB1.out)
      clear hb1
      go_wp2_with (first | (go_at_call 53; refine (isDay_any _ _).mono ?_; rintro e w2 ⟨rfl, rfl⟩))
      go_ret2
      exact ⟨by rw [HF.out.1, HF.out.2]; rfl, HB1.out⟩
    · have g3 := inB_iff.1 g2
      have HO := Lib.hid (calB_ok g1)
      have hh := HO.out.1
      unfold HeadB at hh
      obtain ⟨k1, k2, k3, k4, k5, _, _⟩ := hh
      by_cases hs : day < f
      · have HY := Lib.hid (fun k => nr_yes (f := f) (t := t) (d := d) (us := us) (vs := vs) (day := day) (s := f) g1 g2 (by unfold nrS; rw [if_pos hs]) k)
        have HN := Lib.hid (nr_none (f := f) (t := t) (d := d) (us := us) (vs := vs) (day := day) (s := f) g1 g2 (by unfold nrS; rw [if_pos hs]))
        go_enter Try.func21, Try.ntmps21
        go_wp2_with fail
        refine (isValidCalendar_any _ _ _ _ _ _ _ _ _ _ (H1.out.call (by go_grown)) (H2.out.call (by go_grown)) hn hm).mono ?_
        rintro e W ⟨rfl, hb1⟩
        have HC : Hid (Cal5 W w.heap.size f t d A us.length ca R vs.length cr) := Cal5.below (B := _) ⟨by go_simp, by go_simp, by go_simp, by go_simp, by go_simp⟩ hb1 (by simp)
        have HB1 : Hid (Below w.heap.size w W) := bel_of (by go_grown) (by simp) hb1
        have hs1 : w.heap.size < W.heap.size := by have := hb1.size; simp at this; omega
        have H1' := Lib.hid (H1.out.call HB1.out)
        have H2' := Lib.hid (H2.out.call HB1.out)
        clear hb1
        obtain ⟨c0, c1, c2, c3, c4⟩ := HC.out
        go_wp2_with (first | (go_at_call 53; refine (isDay_any _ _).mono ?_; rintro e w2 ⟨rfl, rfl⟩) | fail)
        clear c0 c1 c2 c3 c4
        go_loopw [6] (fun i wr => ∃ k : Nat, (f + k ≤ t + 1 ∨ k = 0) ∧ i = .int .i64 (f + k) ∧ (∀ j : Nat, j < k → runB f t d us vs (f + j) = false) ∧ Below W.heap.size W wr) (fun i _ => (t + 1 - intOf i).toNat)
        case atStart => exact ⟨0, by omega, by go_num, fun j hj => by omega, Below.refl _ _⟩
        case round =>
          obtain ⟨k, hk, rfl, ha, hb⟩ := hrel
          have HB := Lib.hid hb
          have HA := Lib.hid ha
          obtain ⟨c0, c1, c2, c3, c4⟩ := HC.out.below hb hs1
          clear hb ha
          by_cases hle : f + k ≤ t
          · cases hr : runB f t d us vs (f + k)
            · go_wp2_with (first | (go_at_call 54; refine (runsOnC _ _ _ _ _ _ _ _ _ _ _ (H1'.out.call HB.out) (H2'.out.call HB.out) hn hm HO.out (by omega) (by omega)).mono ?_; rintro e w2 ⟨rfl, hb2⟩; have HB2 := Lib.hid (bel_call HB.out hb2); clear hb2))
              go_roundw
              case rel => exact ⟨k + 1, by omega, by go_num, fun j hj => by (by_cases e : j = k; (rw [e]; exact hr); exact HA.out j (by omega)), HB2.out⟩
              case measure => simp [intOf]; omega
            · have HZ := Lib.hid (HY.out k hle hr HA.out)
              go_wp2_with (first | (go_at_call 54; refine (runsOnC _ _ _ _ _ _ _ _ _ _ _ (H1'.out.call HB.out) (H2'.out.call HB.out) hn hm HO.out (by omega) (by omega)).mono ?_; rintro e w2 ⟨rfl, hb2⟩; have HB2 := Lib.hid (bel_call HB.out hb2); clear hb2))
              go_ret2
              exact ⟨by rw [HZ.out.1, HZ.out.2]; rfl, bel_of HB1.out (by omega) HB2.out⟩
          · have HZ := Lib.hid (HN.out (fun j hj => HA.out j (by omega)))
            go_wp2_with fail
            go_ret2
            exact ⟨by rw [HZ.out.1, HZ.out.2]; rfl, bel_of HB1.out (by omega) HB.out⟩
      · have HY := Lib.hid (fun k => nr_yes (f := f) (t := t) (d := d) (us := us) (vs := vs) (day := day) (s := day) g1 g2 (by unfold nrS; rw [if_neg hs]) k)
        have HN := Lib.hid (nr_none (f := f) (t := t) (d := d) (us := us) (vs := vs) (day := day) (s := day) g1 g2 (by unfold nrS; rw [if_neg hs]))
        go_enter Try.func21, Try.ntmps21
        go_wp2_with fail
        refine (isValidCalendar_any _ _ _ _ _ _ _ _ _ _ (H1.out.call (by go_grown)) (H2.out.call (by go_grown)) hn hm).mono ?_
        rintro e W ⟨rfl, hb1⟩
        have HC : Hid (Cal5 W w.heap.size f t d A us.length ca R vs.length cr) := Cal5.below (B := _) ⟨by go_simp, by go_simp, by go_simp, by go_simp, by go_simp⟩ hb1 (by simp)
        have HB1 : Hid (Below w.heap.size w W) := bel_of (by go_grown) (by simp) hb1
        have hs1 : w.heap.size < W.heap.size := by have := hb1.size; simp at this; omega
        have H1' := Lib.hid (H1.out.call HB1.out)
        have H2' := Lib.hid (H2.out.call HB1.out)
        clear hb1
        obtain ⟨c0, c1, c2, c3, c4⟩ := HC.out
        go_wp2_with (first | (go_at_call 53; refine (isDay_any _ _).mono ?_; rintro e w2 ⟨rfl, rfl⟩) | fail)
        clear c0 c1 c2 c3 c4
        go_loopw [6] (fun i wr => ∃ k : Nat, (day + k ≤ t + 1 ∨ k = 0) ∧ i = .int .i64 (day + k) ∧ (∀ j : Nat, j < k → runB f t d us vs (day + j) = false) ∧ Below W.heap.size W wr) (fun i _ => (t + 1 - intOf i).toNat)
        case atStart => exact ⟨0, by omega, by go_num, fun j hj => by omega, Below.refl _ _⟩
        case round =>
          obtain ⟨k, hk, rfl, ha, hb⟩ := hrel
          have HB := Lib.hid hb
          have HA := Lib.hid ha
          obtain ⟨c0, c1, c2, c3, c4⟩ := HC.out.below hb hs1
          clear hb ha
          by_cases hle : day + k ≤ t
          · cases hr : runB f t d us vs (day + k)
            · go_wp2_with (first | (go_at_call 54; refine (runsOnC _ _ _ _ _ _ _ _ _ _ _ (H1'.out.call HB.out) (H2'.out.call HB.out) hn hm HO.out (by omega) (by omega)).mono ?_; rintro e w2 ⟨rfl, hb2⟩; have HB2 := Lib.hid (bel_call HB.out hb2); clear hb2))
              go_roundw
              case rel => exact ⟨k + 1, by omega, by go_num, fun j hj => by (by_cases e : j = k; (rw [e]; exact hr); exact HA.out j (by omega)), HB2.out⟩
              case measure => simp [intOf]; omega
            · have HZ := Lib.hid (HY.out k hle hr HA.out)
              go_wp2_with (first | (go_at_call 54; refine (runsOnC _ _ _ _ _ _ _ _ _ _ _ (H1'.out.call HB.out) (H2'.out.call HB.out) hn hm HO.out (by omega) (by omega)).mono ?_; rintro e w2 ⟨rfl, hb2⟩; have HB2 := Lib.hid (bel_call HB.out hb2); clear hb2))
              go_ret2
              exact ⟨by rw [HZ.out.1, HZ.out.2]; rfl, bel_of HB1.out (by omega) HB2.out⟩
          · have HZ := Lib.hid (HN.out (fun j hj => HA.out j (by omega)))
            go_wp2_with fail
            go_ret2
            exact ⟨by rw [HZ.out.1, HZ.out.2]; rfl, bel_of HB1.out (by omega) HB.out⟩

set_option maxRecDepth 100000 in
set_option maxHeartbeats 2000000 in
theorem fnNextRun_walk (v : Value) (x : (Int × Int × Int) × (List Int × List Int)) (day : Int) (wday : (Lit.int .i64 day).wf = true) (w : World) (hx : LCal w v x) :
    Calls Try.prog 5 #[v, .int .i64 day] w fun e w' => e = .returned (.bool true) ∧ Below w.heap.size w w' := by
  obtain ⟨⟨f, t, d⟩, us, vs⟩ := x
  obtain ⟨A, ca, R, cr, rfl, hA, hR, hl1, hl2⟩ := hx
  simp only [] at hA hR hl1 hl2 ⊢
  have HA := Lib.hid hA
  have HR := Lib.hid hR
  clear hA hR
  by_cases hz : szC us.length vs.length 1048576 < 0
  · go_enter Try.func5, Try.ntmps5
    go_wp2_with (go_at_call 13; refine (szCalendar_any _ _ _ _ _ _ _ _ _ _ _ (by omega) (by omega) (by omega) (by omega)).mono ?_; rintro e w1 ⟨rfl, rfl⟩)
    go_ret
    exact ⟨rfl, by go_grown⟩
  · obtain ⟨hn, hm⟩ := szC_pos hz
    go_enter Try.func5, Try.ntmps5
    go_wp2_with (first | (go_at_call 13; refine (szCalendar_any _ _ _ _ _ _ _ _ _ _ _ (by omega) (by omega) (by omega) (by omega)).mono ?_; rintro e w1 ⟨rfl, rfl⟩) | fail)
    refine (toCalendar_any _ _ _ _ _ _ _ _ _ _ (HA.out.call (by go_grown)) (HR.out.call (by go_grown)) hn hm).mono ?_
    rintro e w1 ⟨g, g', rfl, _, _, _, i1, i2, hb1⟩
    have HB1 : Hid (Below w.heap.size w w1) := bel_of (by go_grown) (by simp; omega) hb1
    have HC1 : Hid (Cal5 w1 w.heap.size f t d A us.length ca R vs.length cr) := Cal5.below (B := _) ⟨by go_simp, by go_simp, by go_simp, by go_simp, by go_simp⟩ hb1 (by simp; omega)
    have hs1 : w.heap.size < w1.heap.size := by have := hb1.size; simp at this; omega
    have I1 := Lib.hid i1
    have I2 := Lib.hid i2
    clear i1 i2 hb1
    go_wp2_with fail
    refine (specNextRun_any _ _ _ _ _ _ _ _ _ _ _ I1.out I2.out hn hm).mono ?_
    rintro e w2 ⟨rfl, hb2⟩
    have HB2 : Hid (Below w.heap.size w w2) := bel_of HB1.out (by omega) hb2
    have hs2 : w.heap.size < w2.heap.size := by have := hb2.size; omega
    have HC2 := Lib.hid (HC1.out.below hb2 hs1)
    clear I1 I2 hb2 HC1 HB1 hs1
    obtain ⟨c0, c1, c2, c3, c4⟩ := HC2.out
    go_wp2_with fail
    refine (toCalendar_any _ _ _ _ _ _ _ _ _ _ (HA.out.call HB2.out) (HR.out.call HB2.out) hn hm).mono ?_
    rintro e w3 ⟨h, h', rfl, _, _, _, j1, j2, hb3⟩
    have HB3 : Hid (Below w.heap.size w w3) := bel_of HB2.out (by omega) hb3
    have hs3 : w.heap.size < w3.heap.size := by have := hb3.size; omega
    have HC3 := Lib.hid (HC2.out.below hb3 hs2)
    have J1 := Lib.hid j1
    have J2 := Lib.hid j2
    clear j1 j2 hb3 HC2 HB2 hs2 c0 c1 c2 c3 c4
    go_wp2_with fail
    refine (implNextRun_any _ _ _ _ _ _ _ _ _ _ _ (J1.out.alloc _) (J2.out.alloc _) hn hm).mono ?_
    rintro e w4 ⟨rfl, hb4⟩
    have HB4 : Hid (Below w.heap.size w w4) := bel_of (HB3.out.alloc (by omega) _) (by simp; omega) hb4
    have hs4 : w.heap.size < w4.heap.size := by have := hb4.size; simp at this; omega
    have ht4 : w3.heap.size < w4.heap.size := by have := hb4.size; simp at this; omega
    have HC4 : Hid (Cal5 w4 w.heap.size f t d A us.length ca R vs.length cr) := (HC3.out.below ((Below.refl _ _).alloc (Nat.le_refl _) _) hs3).below hb4 (by simp; omega)
    have HD4 : Hid (Cal5 w4 w3.heap.size f t d (some ⟨h, 0, none⟩) us.length us.length (some ⟨h', 0, none⟩) vs.length vs.length) := Cal5.below ⟨by go_simp, by go_simp, by go_simp, by go_simp, by go_simp⟩ hb4 (by simp)
    have K1 := Lib.hid ((J1.out.alloc _).call hb4)
    have K2 := Lib.hid ((J2.out.alloc _).call hb4)
    clear J1 J2 hb4 HC3 HB3
    go_wp2_with fail
    have hC : ∀ w', Below w4.heap.size w4 w' → Cal5 w' w.heap.size f t d A us.length ca R vs.length cr := fun w' hb => HC4.out.below hb hs4
    have hD : ∀ w', Below w4.heap.size w4 w' → Cal5 w' w3.heap.size f t d (some ⟨h, 0, none⟩) us.length us.length (some ⟨h', 0, none⟩) vs.length vs.length := fun w' hb => HD4.out.below hb ht4
    unfold Cal5 at hC hD
    go_region_held3 (fun w' => Below w4.heap.size w4 w') (repeat' first | assumption | exact Nat.le_refl _ | exact Below.refl _ _ | (refine bel_drew ?_) | (refine bel_alloc ?_ _) | (refine bel_set ?_ ?_ _))
      (first
        | (go_at_call 15; refine (toCalendar_any _ _ _ _ _ _ _ _ _ _ (HA.out.call (HB4.out.trans ((‹Below w4.heap.size w4 _› : Below w4.heap.size w4 _).mono HB4.out.size))) (HR.out.call (HB4.out.trans ((‹Below w4.heap.size w4 _› : Below w4.heap.size w4 _).mono HB4.out.size))) hn hm).mono ?_; rintro e w5 ⟨g5, g6, rfl, _, _, _, m1, m2, hb5⟩; have hB5 := bel_call ‹Below w4.heap.size w4 _› hb5; have M1 := Lib.hid m1; have M2 := Lib.hid m2; clear m1 m2 hb5)
        | (go_at_call 17; refine (eqCalendar_same _ _ _ _ _ _ _ _ _ _ _ _ _ _ (K1.out.call ‹Below w4.heap.size w4 _›) (K2.out.call ‹Below w4.heap.size w4 _›) M1.out M2.out hn hm).mono ?_; rintro e w6 ⟨rfl, hb6⟩; have hB6 := bel_call ‹Below w4.heap.size w4 w5› hb6; clear hb6))
    all_goals
      clear hC hD
      go_wp2_with fail
      go_ret
      exact ⟨rfl, bel_of HB4.out (by omega) hB6⟩
end Go.Proofs.Ythhlgaonlpppfaa
