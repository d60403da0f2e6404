/- Lines and networks in memory: lists of lines, networks. -/
import Derived.Test.YtemhcobjhpifpaaNetA
namespace Go.Proofs.Ytemhcobjhpifpaa
open Go.ChangeShapes Go.WideShapes Go.ChangeAt Go.RowKit Go.PlainAid
set_option linter.unusedVariables false

/-- A block of lines that is being filled. -/
structure LFill (w : World) (g n k : Nat) (xs : List LineD) : Prop where
  done : ∀ j, j < k → eLine w (Zone.new g w.heap.size) g (j * 3) (nthL xs j)
  there : ∀ c, k * 3 ≤ c → c < n * 3 → ∃ v, w.cell? ⟨g, c, none⟩ = some v
  free : ∀ j, w.frozen? ⟨g, j, none⟩ = false
  lt : g < w.heap.size
theorem LFill.made (w : World) (z : Array Value) (n : Nat) (e : TypeId) (xs : List LineD) : LFill (w.alloc (.cells (madeCells z (n * 3)) e)) w.heap.size n 0 xs where
  done := fun j hj => by omega
  there := fun j _ hj => (Fill.made w z (n * 3) e (fun _ => .bool true)).there j (by omega) hj
  free := (Fill.made w z (n * 3) e (fun _ => .bool true)).free
  lt := by simp
theorem LFill.keep {w w' : World} {g n k : Nat} {xs : List LineD} {B : Nat} (h : LFill w g n k xs) (hb : Below B w w') (hB : w.heap.size ≤ B) : LFill w' g n k xs where
  done := fun j hj => RdOk.mono (Zone.new_le (Nat.le_refl _) hb.size) (eLine_keep (h.done j hj) (fun c hc => Same.of_below hb (Nat.lt_of_lt_of_le hc.1.2 hB)) (fun i _ => hb.cell (p := ⟨g, _, none⟩) (Nat.lt_of_lt_of_le h.lt hB)))
  there := fun j h1 h2 => by
    obtain ⟨v, hv⟩ := h.there j h1 h2
    exact ⟨v, (hb.cell (p := ⟨g, j, none⟩) (Nat.lt_of_lt_of_le h.lt hB)).trans hv⟩
  free := fun j => (hb.frozen (p := ⟨g, j, none⟩) (Nat.lt_of_lt_of_le h.lt hB)).trans (h.free j)
  lt := Nat.lt_of_lt_of_le h.lt hb.size
theorem cell_set_off (w : World) (g : Nat) {i j : Nat} (h : i ≠ j) (u : Value) : (w.setCell ⟨g, j, none⟩ u).cell? ⟨g, i, none⟩ = w.cell? ⟨g, i, none⟩ := World.cell?_setCell_other _ _ _ _ (addr_ne (Ne.symm h))
theorem LFill.step {w : World} {g n k : Nat} {xs : List LineD} (h : LFill w g n k xs) (hk : k < n) {A R : Option Addr} {ca cr : Nat} (h1 : IntsIn w (Zone.new (g + 1) w.heap.size) A (nthL xs k).stops) (h2 : IntsIn w (Zone.new (g + 1) w.heap.size) R (nthL xs k).runs) (h3 : CapOk (nthL xs k).stops.length ca) (h4 : CapOk (nthL xs k).runs.length cr) :
    LFill (((w.setCell ⟨g, k * 3, none⟩ (.string (nthL xs k).name)).setCell ⟨g, k * 3 + 1, none⟩ (.slice A (nthL xs k).stops.length ca)).setCell ⟨g, k * 3 + 2, none⟩ (.slice R (nthL xs k).runs.length cr)) g n (k + 1) xs := by
  have hs : ∀ c, c ≠ g → Same w (((w.setCell ⟨g, k * 3, none⟩ (.string (nthL xs k).name)).setCell ⟨g, k * 3 + 1, none⟩ (.slice A (nthL xs k).stops.length ca)).setCell ⟨g, k * 3 + 2, none⟩ (.slice R (nthL xs k).runs.length cr)) c := fun c hc =>
    ((Same.set _ hc _).trans (Same.set _ hc _)).trans (Same.set _ hc _)
  obtain ⟨v0, hv0⟩ := h.there (k * 3) (Nat.le_refl _) (by omega)
  obtain ⟨v1, hv1⟩ := h.there (k * 3 + 1) (by omega) (by omega)
  obtain ⟨v2, hv2⟩ := h.there (k * 3 + 2) (by omega) (by omega)
  refine ⟨fun j hj => ?_, fun c hc1 hc2 => ?_, fun j => ?_, by simpa [World.setCell] using h.lt⟩
  · by_cases e : j = k
    · subst e
      refine ⟨A, ca, R, cr, ?_, ?_, ?_, ?_, ?_, h3, h4⟩
      · rw [cell_set_off _ _ (by omega), cell_set_off _ _ (by omega)]; exact World.cell?_setCell_same _ _ _ hv0
      · rw [cell_set_off _ _ (by omega)]; exact World.cell?_setCell_same _ _ _ ((cell_set_off _ _ (by omega) _).trans hv1)
      · exact World.cell?_setCell_same _ _ _ ((cell_set_off _ _ (by omega) _).trans ((cell_set_off _ _ (by omega) _).trans hv2))
      · simp only [size_set]; exact (h1.keep (fun c hc => hs c (by have := hc.1; omega))).mono ⟨fun c hc => ⟨⟨by have := hc.1; omega, hc.2⟩, fun _ => by have := hc.1; omega⟩, fun _ => trivial⟩
      · simp only [size_set]; exact (h2.keep (fun c hc => hs c (by have := hc.1; omega))).mono ⟨fun c hc => ⟨⟨by have := hc.1; omega, hc.2⟩, fun _ => by have := hc.1; omega⟩, fun _ => trivial⟩
    · simp only [size_set]
      refine eLine_keep (h.done j (by omega)) (fun c hc => hs c (hc.2 trivial)) (fun i hi => ?_)
      rw [cell_set_off _ _ (by omega), cell_set_off _ _ (by omega), cell_set_off _ _ (by omega)]
  · rw [cell_set_off _ _ (by omega), cell_set_off _ _ (by omega), cell_set_off _ _ (by omega)]
    exact h.there c (by omega) hc2
  · rw [World.frozen?_setCell, World.frozen?_setCell, World.frozen?_setCell]; exact h.free j

theorem Try.infoLine : (Try.prog.info? 72).map (fun i => (i.zero, i.size, i.bytes)) = some (some (.agg #[.string ⟨#[]⟩, .slice none 0 0, .slice none 0 0]), 3, 64) := by kernel_rfl

set_option maxRecDepth 100000 in
set_option maxHeartbeats 1000000 in
theorem toLineS_new (A : Option Addr) (c : Nat) (xs : List LineD) (w : World) (h : LinesIn w (Zone.below w.heap.size) A xs) (hn : xs.length ≤ 1048576) (hns : ∀ k, k < xs.length → (nthL xs k).stops.length ≤ 1048576 ∧ (nthL xs k).runs.length ≤ 1048576) :
    Calls Try.prog 23 #[.slice A xs.length c] w (NewSl eLine at3 xs w) := by
  obtain ⟨i0, hi, hz0, hz1, hz2⟩ := info_parts Try.infoLine
  have hmk := fun W => run_make_n (P := Try.prog) 32 72 i0 _ Try.underlying32 hi hz0 xs.length 3 64 hz1 hz2 (by omega) (by omega) W
  have HX := Lib.hid h
  clear h
  go_enter Try.func23, Try.ntmps23
  go_wp2
  go_loopw [4] (fun i wr => ∃ k : Nat, k ≤ xs.length ∧ i = .int .i64 k ∧ LFill wr w.heap.size xs.length k xs ∧ Below w.heap.size w wr) (fun i _ => xs.length - (intOf i).toNat)
  case atStart => exact ⟨0, Nat.zero_le _, rfl, LFill.made _ _ _ _ _, (Below.refl _ _).alloc (Nat.le_refl _) _⟩
  case round =>
    obtain ⟨k, hk, rfl, hf, hb⟩ := hrel
    have HF := Lib.hid hf
    have HB := Lib.hid hb
    by_cases hlt : k < xs.length
    · obtain ⟨b, o, rfl, hbl, A', ca, R', cr, hc0, hc1, hc2, hi1, hi2⟩ := LinesIn.line (HX.out.at_below hb) hlt
      have hi1' := hi1.mono (Zone.below_le hb.size)
      have hi2' := hi2.mono (Zone.below_le hb.size)
      obtain ⟨hn1, hn2⟩ := hns k hlt
      have hgl := hf.lt
      clear hf hb hi1 hi2
      go_wp2_with fail
      refine (toLine_new _ _ _ _ _ _ hi1' hi2' hn1 hn2).mono ?_
      rintro e w1 ⟨g1, g2, rfl, hj1, hj2, hb1⟩
      have HB1 : Hid (Below w.heap.size w w1) := HB.out.trans (hb1.mono HB.out.size)
      have hf1 := HF.out.keep hb1 (Nat.le_refl _)
      obtain ⟨v0, hv0⟩ := hf1.there (k * 3) (Nat.le_refl _) (by omega)
      obtain ⟨v1, hv1⟩ := hf1.there (k * 3 + 1) (by omega) (by omega)
      obtain ⟨v2, hv2⟩ := hf1.there (k * 3 + 2) (by omega) (by omega)
      have hfr0 := hf1.free (k * 3)
      have hfr1 := hf1.free (k * 3 + 1)
      have hfr2 := hf1.free (k * 3 + 2)
      have hst := Lib.hid (hf1.step hlt (ca := (nthL xs k).stops.length) (cr := (nthL xs k).runs.length) (hj1.mono (Zone.new_le (by omega) (Nat.le_refl _))) (hj2.mono (Zone.new_le (by omega) (Nat.le_refl _))) ⟨Nat.le_refl _, by omega⟩ ⟨Nat.le_refl _, by omega⟩)
      clear hf1 hb1 hj1 hj2
      go_wp2_with fail
      go_roundw
      case rel => exact ⟨k + 1, by omega, by go_num, hst.out, ((HB1.out.setCell (Nat.le_refl _) _).setCell (Nat.le_refl _) _).setCell (Nat.le_refl _) _⟩
      case measure => simp [intOf]; omega
    · obtain rfl : k = xs.length := by omega
      clear hf hb
      go_wp2
      go_ret
      exact ⟨_, rfl, Nat.le_refl _, HF.out.lt, fun hn => ⟨_, 0, rfl, ⟨Nat.le_refl _, HF.out.lt⟩, fun _ => HF.out.free, fun j hj => by rw [Nat.zero_add]; exact HF.out.done j hj⟩, HB.out⟩

set_option maxRecDepth 100000 in
set_option maxHeartbeats 1000000 in
theorem eqLineS_same (A A' : Option Addr) (c c' : Nat) (xs : List LineD) (w : World) (h : LinesIn w (Zone.below w.heap.size) A xs) (h' : LinesIn w (Zone.below w.heap.size) A' xs) (hn : xs.length ≤ 1048576) (hns : ∀ k, k < xs.length → (nthL xs k).stops.length ≤ 1048576 ∧ (nthL xs k).runs.length ≤ 1048576) :
    Calls Try.prog 31 #[.slice A xs.length c, .slice A' xs.length c'] w fun e w' => e = .returned (.bool true) ∧ Below w.heap.size w w' := by
  have HX := Lib.hid h
  have HY := Lib.hid h'
  clear h h'
  go_enter Try.func31, Try.ntmps31
  go_wp2
  go_loopw [5] (fun i wr => ∃ k : Nat, k ≤ xs.length ∧ i = .int .i64 k ∧ Below w.heap.size w wr) (fun i _ => xs.length - (intOf i).toNat)
  case atStart => exact ⟨0, Nat.zero_le _, rfl, Below.refl _ _⟩
  case round =>
    obtain ⟨k, hk, rfl, hb⟩ := hrel
    have HB := Lib.hid hb
    by_cases hlt : k < xs.length
    · obtain ⟨b, o, rfl, hbl, A1, ca, R1, cr, hc0, hc1, hc2, hi1, hi2⟩ := LinesIn.line (HX.out.at_below hb) hlt
      obtain ⟨b', o', rfl, hbl', A1', ca', R1', cr', hc0', hc1', hc2', hi1', hi2'⟩ := LinesIn.line (HY.out.at_below hb) hlt
      have hz := hb.size
      have H1 := Lib.hid (hi1.mono (Zone.below_le hz))
      have H2 := Lib.hid (hi2.mono (Zone.below_le hz))
      have H1' := Lib.hid (hi1'.mono (Zone.below_le hz))
      have H2' := Lib.hid (hi2'.mono (Zone.below_le hz))
      obtain ⟨hn1, hn2⟩ := hns k hlt
      have hj1 : (k : Int) < (xs.length : Int) := by omega
      clear hb hi1 hi2 hi1' hi2' hz
      go_wp2_with fail
      go_still_tail 8, (by kernel_rfl)
      go_wp2_with fail
      refine (eqLine_same _ _ _ _ _ _ _ _ _ _ (H1.out.call (by go_grown)) (H2.out.call (by go_grown)) (H1'.out.call (by go_grown)) (H2'.out.call (by go_grown)) hn1 hn2).mono ?_
      rintro e w1 ⟨rfl, hb1⟩
      have HB1 : Hid (Below w.heap.size w w1) := bel_of (bel_drew HB.out) HB.out.size hb1
      clear hb1
      go_wp2_with fail
      go_roundw
      case rel => exact ⟨k + 1, by omega, by go_num, HB1.out⟩
      case measure => simp [intOf]; omega
    · obtain rfl : k = xs.length := by omega
      clear hb
      go_wp2_with fail
      go_ret
      exact ⟨rfl, HB.out⟩

/-! ### Networks -/
theorem szNetwork_any (x : NetD) (A L : Option Addr) (ca cl : Nat) (left : Int) (w : World) (h : StrsIn w (Zone.below w.heap.size) A x.stops) (h' : LinesIn w (Zone.below w.heap.size) L x.lines) (h0 : 0 ≤ left) (h1 : left ≤ 1048576)
    (hn : x.stops.length ≤ 9223372036854775807) (hm : x.lines.length ≤ 9223372036854775807) (hns : ∀ k, k < x.stops.length → (nthS x.stops k).size ≤ 9223372036854775807) (hms : ∀ k, k < x.lines.length → lenLn (nthL x.lines k)) :
    Calls Try.prog 4 #[.agg #[.slice A x.stops.length ca, .slice L x.lines.length cl], .int .i64 left] w fun e w' =>
      e = .returned (.int .i64 (szI (szNet x) left)) ∧ Below w.heap.size w w' := by
  have HX := Lib.hid h
  have HY := Lib.hid h'
  clear h h'
  have hs1 := szI_le (a := szSs x.stops) h1
  have hs2 := szI_lo (a := szSs x.stops) h0
  by_cases hb : szI (szSs x.stops) left < 0
  · have H := Lib.hid (show szI (szNet x) left = -1 from szI_neg hb)
    go_enter Try.func4, Try.ntmps4
    go_wp2_with fail
    refine (szStringS_any _ _ _ _ _ _ (HX.out.call (by go_grown)) h0 h1 hn hns).mono ?_
    rintro e w1 ⟨rfl, rfl⟩
    go_wp2_with fail
    go_ret
    exact ⟨retI H.out.symm, by go_grown⟩
  · by_cases hc : szI (szLns x.lines) (szI (szSs x.stops) left) < 0
    all_goals
      have H := Lib.hid (show szI (szNet x) left = if szI (szLns x.lines) (szI (szSs x.stops) left) < 0 then -1 else szI (szLns x.lines) (szI (szSs x.stops) left) by
        unfold szNet
        rw [szI_add, if_neg hb]
        split
        · exact szI_neg' (by assumption)
        · first | rfl | omega)
      simp only [hc, if_true, if_false] at H
      go_enter Try.func4, Try.ntmps4
      go_wp2_with fail
      refine (szStringS_any _ _ _ _ _ _ (HX.out.call (by go_grown)) h0 h1 hn hns).mono ?_
      rintro e w1 ⟨rfl, rfl⟩
      go_wp2_with fail
      refine (szLineS_any _ _ _ _ _ (HY.out.call (by go_grown)) (by omega) (by omega) hm hms).mono ?_
      rintro e w2 ⟨rfl, hb2⟩
      have HB2 : Hid (Below w.heap.size w w2) := bel_of (by go_grown) (by simp) hb2
      obtain ⟨hc2, hf2, hl2⟩ := bcell3 hb2
      clear hb2
      go_wp2_with fail
      go_ret
      exact ⟨retI H.out.symm, HB2.out⟩

/-- A network in new memory. -/
def NewNet (x : NetD) (w : World) (e : Ending) (w' : World) : Prop :=
  ∃ g h, e = .returned (.agg #[.slice (some ⟨g, 0, none⟩) x.stops.length x.stops.length, .slice (some ⟨h, 0, none⟩) x.lines.length x.lines.length]) ∧ g < h ∧ h < w'.heap.size ∧ w.heap.size ≤ g ∧
    StrsIn w' (Zone.new w.heap.size w'.heap.size) (some ⟨g, 0, none⟩) x.stops ∧ LinesIn w' (Zone.new w.heap.size w'.heap.size) (some ⟨h, 0, none⟩) x.lines ∧ Below w.heap.size w w'

/-- A network of a size that the laws take. -/
structure Fits (x : NetD) : Prop where
  stops : x.stops.length ≤ 1048576
  lines : x.lines.length ≤ 1048576
  names : ∀ k, k < x.stops.length → (nthS x.stops k).size ≤ 1048576
  each : ∀ k, k < x.lines.length → (nthL x.lines k).name.size ≤ 1048576 ∧ (nthL x.lines k).stops.length ≤ 1048576 ∧ (nthL x.lines k).runs.length ≤ 1048576
theorem fits_of {x : NetD} (h : ¬ szI (szNet x) 1048576 < 0) : Fits x := by
  have h2 : szNet x ≤ 1048576 := by unfold szI at h; split at h <;> omega
  unfold szNet szSs szLns at h2
  refine ⟨by omega, by omega, fun k hk => ?_, fun k hk => ?_⟩
  · have := le_upto (fun j => (nthS x.stops j).size) hk
    omega
  · have := le_upto (fun j => szLn (nthL x.lines j)) hk
    have e : szLn (nthL x.lines k) = (nthL x.lines k).name.size + (nthL x.lines k).stops.length + (nthL x.lines k).runs.length := rfl
    omega

set_option maxRecDepth 100000 in
set_option maxHeartbeats 1000000 in
theorem toNetwork_new (x : NetD) (A L : Option Addr) (ca cl : Nat) (w : World) (h : StrsIn w (Zone.below w.heap.size) A x.stops) (h' : LinesIn w (Zone.below w.heap.size) L x.lines) (hx : Fits x) :
    Calls Try.prog 7 #[.agg #[.slice A x.stops.length ca, .slice L x.lines.length cl]] w (NewNet x w) := by
  have HX := Lib.hid h
  have HY := Lib.hid h'
  have hns : ∀ k, k < x.lines.length → (nthL x.lines k).stops.length ≤ 1048576 ∧ (nthL x.lines k).runs.length ≤ 1048576 := fun k hk => (hx.each k hk).2
  have hn := hx.stops
  have hm := hx.lines
  clear h h'
  go_enter Try.func7, Try.ntmps7
  go_wp2_with fail
  refine (toStringS_new _ _ _ _ (HX.out.call (by go_grown)) hn).mono ?_
  rintro e w1 ⟨g, rfl, hg, hgl, hi1, hb1⟩
  have HB1 : Hid (Below w.heap.size w w1) := bel_of (by go_grown) (by simp; omega) hb1
  obtain ⟨hc1, hf1, hl1⟩ := bcell3 hb1
  have hz1 := hb1.size
  simp at hz1
  have hy0 : w.heap.size < w1.heap.size := by omega
  have hy1 : w.heap.size + 1 < w1.heap.size := by omega
  have hy2 : w.heap.size + 1 + 1 < w1.heap.size := by omega
  have HI1 : Hid (StrsIn w1 (Zone.new (w.heap.size + 3) w1.heap.size) (some ⟨g, 0, none⟩) x.stops) := hi1.mono (Zone.new_le (by simp) (Nat.le_refl _))
  clear hi1 hb1
  go_wp2_with fail
  refine (toLineS_new _ _ _ _ (HY.out.call ((HB1.out).setCell (by simp; omega) _)) hm hns).mono ?_
  rintro e w2 ⟨g2, rfl, hg2, hgl2, hi2, hb2⟩
  have HB2 : Hid (Below w.heap.size w w2) := bel_of (HB1.out.setCell (by simp; omega) _) (by simp; omega) hb2
  obtain ⟨hc2, hf2, hl2⟩ := bcell3 hb2
  have hz2 := hb2.size
  simp at hz2
  have HG : Hid (w.heap.size < g ∧ g < g2 ∧ g2 < w2.heap.size) := by
    simp at hg hg2
    exact ⟨by omega, by omega, by omega⟩
  have HI1' : Hid (StrsIn w2 (Zone.new (w.heap.size + 3) w2.heap.size) (some ⟨g, 0, none⟩) x.stops) := ((HI1.out.new_set (Or.inl (by simp <;> omega)) _).new_call hb2 (by simp)).mono (Zone.new_le (Nat.le_refl _) hz2)
  have hv2 : w.heap.size + 1 + 1 < w2.heap.size := by omega
  have HI2 : Hid (LinesIn w2 (Zone.new (w.heap.size + 3) w2.heap.size) (some ⟨g2, 0, none⟩) x.lines) := hi2.mono (Zone.new_le (by simp at hg2 ⊢ <;> omega) (Nat.le_refl _))
  have q0 : w2.cell? ⟨w.heap.size + 1, 0, none⟩ = some (.slice none 0 0) := by go_simp
  have q1 : w2.cell? ⟨w.heap.size + 1, 1, none⟩ = some (.slice none 0 0) := by go_simp
  have r0 : w2.cell? ⟨w.heap.size + 1 + 1, 0, none⟩ = some (.slice (some ⟨g, 0, none⟩) x.stops.length x.stops.length) := by first | go_simp | (rw [hc2 _ _ (by simp; omega)]; exact World.cell?_setCell_same _ _ _ (u := .slice none 0 0) (by go_simp))
  have r1 : w2.cell? ⟨w.heap.size + 1 + 1, 1, none⟩ = some (.slice none 0 0) := by first | go_simp | (rw [hc2 _ _ (by simp; omega)]; exact World.cell?_setCell_same _ _ _ (u := .slice none 0 0) (by go_simp))
  have q5 : ∀ j, w2.frozen? ⟨w.heap.size + 1, j, none⟩ = false := fun j => by go_simp
  have q6 : ∀ j, w2.frozen? ⟨w.heap.size + 1 + 1, j, none⟩ = false := fun j => by go_simp
  clear hi2 hb2 hg hg2 hgl hgl2 hc1 hc2 hf1 hf2 hl1 hl2
  go_wp2_with fail
  refine bodyPost_ret (v := .agg #[.slice (some ⟨g, 0, none⟩) x.stops.length x.stops.length, .slice (some ⟨g2, 0, none⟩) x.lines.length x.lines.length]) (by simp [results, Try.results7, go_sem, q0, q1]) rfl ?_
  obtain ⟨hg0, hg1, hg2⟩ := HG.out
  refine ⟨g, g2, rfl, hg1, by simp only [size_set]; exact hg2, by omega, ?_, ?_, ?_⟩
  · simp only [size_set]
    refine Sl.mono (Z := Zone.new (w.heap.size + 3) w2.heap.size) ?_ (Zone.new_le (by omega) (Nat.le_refl _))
    repeat' (refine Sl.new_set ?_ (Or.inl (by simp <;> omega)) _)
    exact HI1'.out
  · simp only [size_set]
    refine Sl.mono (Z := Zone.new (w.heap.size + 3) w2.heap.size) ?_ (Zone.new_le (by omega) (Nat.le_refl _))
    repeat' (refine Sl.new_set ?_ (Or.inl (by simp <;> omega)) _)
    exact HI2.out
  · repeat' (refine Below.setCell ?_ (by simp <;> omega) _)
    exact HB2.out

set_option maxHeartbeats 1000000 in
theorem eqNetwork_same (x : NetD) (A L A' L' : Option Addr) (ca cl ca' cl' : Nat) (w : World) (h1 : StrsIn w (Zone.below w.heap.size) A x.stops) (h2 : LinesIn w (Zone.below w.heap.size) L x.lines) (h3 : StrsIn w (Zone.below w.heap.size) A' x.stops) (h4 : LinesIn w (Zone.below w.heap.size) L' x.lines) (hx : Fits x) :
    Calls Try.prog 11 #[.agg #[.slice A x.stops.length ca, .slice L x.lines.length cl], .agg #[.slice A' x.stops.length ca', .slice L' x.lines.length cl']] w fun e w' => e = .returned (.bool true) ∧ Below w.heap.size w w' := by
  have H1 := Lib.hid h1
  have H2 := Lib.hid h2
  have H3 := Lib.hid h3
  have H4 := Lib.hid h4
  have hns : ∀ k, k < x.lines.length → (nthL x.lines k).stops.length ≤ 1048576 ∧ (nthL x.lines k).runs.length ≤ 1048576 := fun k hk => (hx.each k hk).2
  have hn := hx.stops
  have hm := hx.lines
  clear h1 h2 h3 h4
  go_enter Try.func11, Try.ntmps11
  go_wp2_with fail
  refine (eqStringS_same _ _ _ _ _ _ _ _ (H1.out.call (by go_grown)) (H3.out.call (by go_grown)) hn).mono ?_
  rintro e w1 ⟨rfl, q, rfl⟩
  go_wp2_with fail
  refine (eqLineS_same _ _ _ _ _ _ (H2.out.call (bel_drewN (by go_grown) _)) (H4.out.call (bel_drewN (by go_grown) _)) hm hns).mono ?_
  rintro e w2 ⟨rfl, hb2⟩
  have HB2 : Hid (Below w.heap.size w w2) := bel_of (bel_drewN (by go_grown) _) (by simp; omega) hb2
  clear hb2
  go_wp2_with fail
  go_ret
  exact ⟨rfl, HB2.out⟩
end Go.Proofs.Ytemhcobjhpifpaa
