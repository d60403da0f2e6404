/- Lines and networks in memory: lists of lines, networks. -/
import Derived.Test.YtpipegdjflniaaaDoorNetA
namespace Go.Proofs.YtpipegdjflniaaaDoor
open Go.ChangeShapes Go.WideShapes Go.ChangeAt Go.RowKit Go.PlainAid
set_option linter.unusedVariables false

/-- A block of lines that is being filled. -/
structure LFill (w : World) (g n k : Nat) (xs : List LineD) : Prop where
  done : ∀ j, j < k → eLine w (Zone.new g w.heap.size) g (j * 3) (nthL xs j)
  there : ∀ c, k * 3 ≤ c → c < n * 3 → ∃ v, w.cell? ⟨g, c, none⟩ = some v
  free : ∀ j, w.frozen? ⟨g, j, none⟩ = false
  lt : g < w.heap.size
theorem LFill.made (w : World) (z : Array Value) (n : Nat) (e : TypeId) (xs : List LineD) : LFill (w.alloc (.cells (madeCells z (n * 3)) e)) w.heap.size n 0 xs where
  done := fun j hj => by omega
  there := fun j _ hj => (Fill.made w z (n * 3) e (fun _ => .bool true)).there j (by omega) hj
  free := (Fill.made w z (n * 3) e (fun _ => .bool true)).free
  lt := by simp
theorem LFill.keep {w w' : World} {g n k : Nat} {xs : List LineD} {B : Nat} (h : LFill w g n k xs) (hb : Below B w w') (hB : w.heap.size ≤ B) : LFill w' g n k xs where
  done := fun j hj => RdOk.mono (Zone.new_le (Nat.le_refl _) hb.size) (eLine_keep (h.done j hj) (fun c hc => Same.of_below hb (Nat.lt_of_lt_of_le hc.1.2 hB)) (fun i _ => hb.cell (p := ⟨g, _, none⟩) (Nat.lt_of_lt_of_le h.lt hB)))
  there := fun j h1 h2 => by
    obtain ⟨v, hv⟩ := h.there j h1 h2
    exact ⟨v, (hb.cell (p := ⟨g, j, none⟩) (Nat.lt_of_lt_of_le h.lt hB)).trans hv⟩
  free := fun j => (hb.frozen (p := ⟨g, j, none⟩) (Nat.lt_of_lt_of_le h.lt hB)).trans (h.free j)
  lt := Nat.lt_of_lt_of_le h.lt hb.size
theorem cell_set_off (w : World) (g : Nat) {i j : Nat} (h : i ≠ j) (u : Value) : (w.setCell ⟨g, j, none⟩ u).cell? ⟨g, i, none⟩ = w.cell? ⟨g, i, none⟩ := World.cell?_setCell_other _ _ _ _ (addr_ne (Ne.symm h))
theorem LFill.step {w : World} {g n k : Nat} {xs : List LineD} (h : LFill w g n k xs) (hk : k < n) {A R : Option Addr} {ca cr : Nat} (h1 : IntsIn w (Zone.new (g + 1) w.heap.size) A (nthL xs k).stops) (h2 : IntsIn w (Zone.new (g + 1) w.heap.size) R (nthL xs k).runs) (h3 : CapOk (nthL xs k).stops.length ca) (h4 : CapOk (nthL xs k).runs.length cr) :
    LFill (((w.setCell ⟨g, k * 3, none⟩ (.string (nthL xs k).name)).setCell ⟨g, k * 3 + 1, none⟩ (.slice A (nthL xs k).stops.length ca)).setCell ⟨g, k * 3 + 2, none⟩ (.slice R (nthL xs k).runs.length cr)) g n (k + 1) xs := by
  have hs : ∀ c, c ≠ g → Same w (((w.setCell ⟨g, k * 3, none⟩ (.string (nthL xs k).name)).setCell ⟨g, k * 3 + 1, none⟩ (.slice A (nthL xs k).stops.length ca)).setCell ⟨g, k * 3 + 2, none⟩ (.slice R (nthL xs k).runs.length cr)) c := fun c hc =>
    ((Same.set _ hc _).trans (Same.set _ hc _)).trans (Same.set _ hc _)
  obtain ⟨v0, hv0⟩ := h.there (k * 3) (Nat.le_refl _) (by omega)
  obtain ⟨v1, hv1⟩ := h.there (k * 3 + 1) (by omega) (by omega)
  obtain ⟨v2, hv2⟩ := h.there (k * 3 + 2) (by omega) (by omega)
  refine ⟨fun j hj => ?_, fun c hc1 hc2 => ?_, fun j => ?_, by simpa [World.setCell] using h.lt⟩
  · by_cases e : j = k
    · subst e
      refine ⟨A, ca, R, cr, ?_, ?_, ?_, ?_, ?_, h3, h4⟩
      · rw [cell_set_off _ _ (by omega), cell_set_off _ _ (by omega)]; exact World.cell?_setCell_same _ _ _ hv0
      · rw [cell_set_off _ _ (by omega)]; exact World.cell?_setCell_same _ _ _ ((cell_set_off _ _ (by omega) _).trans hv1)
      · exact World.cell?_setCell_same _ _ _ ((cell_set_off _ _ (by omega) _).trans ((cell_set_off _ _ (by omega) _).trans hv2))
      · simp only [size_set]; exact (h1.keep (fun c hc => hs c (by have := hc.1; omega))).mono ⟨fun c hc => ⟨⟨by have := hc.1; omega, hc.2⟩, fun _ => by have := hc.1; omega⟩, fun _ => trivial⟩
      · simp only [size_set]; exact (h2.keep (fun c hc => hs c (by have := hc.1; omega))).mono ⟨fun c hc => ⟨⟨by have := hc.1; omega, hc.2⟩, fun _ => by have := hc.1; omega⟩, fun _ => trivial⟩
    · simp only [size_set]
      refine eLine_keep (h.done j (by omega)) (fun c hc => hs c (hc.2 trivial)) (fun i hi => ?_)
      rw [cell_set_off _ _ (by omega), cell_set_off _ _ (by omega), cell_set_off _ _ (by omega)]
  · rw [cell_set_off _ _ (by omega), cell_set_off _ _ (by omega), cell_set_off _ _ (by omega)]
    exact h.there c (by omega) hc2
  · rw [World.frozen?_setCell, World.frozen?_setCell, World.frozen?_setCell]; exact h.free j

theorem Tryd.infoLine : (Tryd.prog.info? 47).map (fun i => (i.zero, i.size, i.bytes)) = some (some (.agg #[.string ⟨#[]⟩, .slice none 0 0, .slice none 0 0]), 3, 64) := by kernel_rfl

set_option maxRecDepth 100000 in
set_option maxHeartbeats 1000000 in
theorem eqLineS_same (A A' : Option Addr) (c c' : Nat) (xs : List LineD) (w : World) (h : LinesIn w (Zone.below w.heap.size) A xs) (h' : LinesIn w (Zone.below w.heap.size) A' xs) (hn : xs.length ≤ 1048576) (hns : ∀ k, k < xs.length → (nthL xs k).stops.length ≤ 1048576 ∧ (nthL xs k).runs.length ≤ 1048576) :
    Calls Tryd.prog 18 #[.slice A xs.length c, .slice A' xs.length c'] w fun e w' => e = .returned (.bool true) ∧ Below w.heap.size w w' := by
  have HX := Lib.hid h
  have HY := Lib.hid h'
  clear h h'
  go_enter Tryd.func18, Tryd.ntmps18
  go_wp2
  go_loopw [5] (fun i wr => ∃ k : Nat, k ≤ xs.length ∧ i = .int .i64 k ∧ Below w.heap.size w wr) (fun i _ => xs.length - (intOf i).toNat)
  case atStart => exact ⟨0, Nat.zero_le _, rfl, Below.refl _ _⟩
  case round =>
    obtain ⟨k, hk, rfl, hb⟩ := hrel
    have HB := Lib.hid hb
    by_cases hlt : k < xs.length
    · obtain ⟨b, o, rfl, hbl, A1, ca, R1, cr, hc0, hc1, hc2, hi1, hi2⟩ := LinesIn.line (HX.out.at_below hb) hlt
      obtain ⟨b', o', rfl, hbl', A1', ca', R1', cr', hc0', hc1', hc2', hi1', hi2'⟩ := LinesIn.line (HY.out.at_below hb) hlt
      have hz := hb.size
      have H1 := Lib.hid (hi1.mono (Zone.below_le hz))
      have H2 := Lib.hid (hi2.mono (Zone.below_le hz))
      have H1' := Lib.hid (hi1'.mono (Zone.below_le hz))
      have H2' := Lib.hid (hi2'.mono (Zone.below_le hz))
      obtain ⟨hn1, hn2⟩ := hns k hlt
      have hj1 : (k : Int) < (xs.length : Int) := by omega
      clear hb hi1 hi2 hi1' hi2' hz
      go_wp2_with fail
      go_still_tail 8, (by kernel_rfl)
      go_wp2_with fail
      refine (eqLine_same _ _ _ _ _ _ _ _ _ _ (H1.out.call (by go_grown)) (H2.out.call (by go_grown)) (H1'.out.call (by go_grown)) (H2'.out.call (by go_grown)) hn1 hn2).mono ?_
      rintro e w1 ⟨rfl, hb1⟩
      have HB1 : Hid (Below w.heap.size w w1) := bel_of (bel_drew HB.out) HB.out.size hb1
      clear hb1
      go_wp2_with fail
      go_roundw
      case rel => exact ⟨k + 1, by omega, by go_num, HB1.out⟩
      case measure => simp [intOf]; omega
    · obtain rfl : k = xs.length := by omega
      clear hb
      go_wp2_with fail
      go_ret
      exact ⟨rfl, HB.out⟩

/-! ### Networks -/
/-- A network in new memory. -/
def NewNet (x : NetD) (w : World) (e : Ending) (w' : World) : Prop :=
  ∃ g h, e = .returned (.agg #[.slice (some ⟨g, 0, none⟩) x.stops.length x.stops.length, .slice (some ⟨h, 0, none⟩) x.lines.length x.lines.length]) ∧ g < h ∧ h < w'.heap.size ∧ w.heap.size ≤ g ∧
    StrsIn w' (Zone.new w.heap.size w'.heap.size) (some ⟨g, 0, none⟩) x.stops ∧ LinesIn w' (Zone.new w.heap.size w'.heap.size) (some ⟨h, 0, none⟩) x.lines ∧ Below w.heap.size w w'

/-- A network of a size that the laws take. -/
structure Fits (x : NetD) : Prop where
  stops : x.stops.length ≤ 1048576
  lines : x.lines.length ≤ 1048576
  names : ∀ k, k < x.stops.length → (nthS x.stops k).size ≤ 1048576
  each : ∀ k, k < x.lines.length → (nthL x.lines k).name.size ≤ 1048576 ∧ (nthL x.lines k).stops.length ≤ 1048576 ∧ (nthL x.lines k).runs.length ≤ 1048576
theorem fits_of {x : NetD} (h : ¬ szI (szNet x) 1048576 < 0) : Fits x := by
  have h2 : szNet x ≤ 1048576 := by unfold szI at h; split at h <;> omega
  unfold szNet szSs szLns at h2
  refine ⟨by omega, by omega, fun k hk => ?_, fun k hk => ?_⟩
  · have := le_upto (fun j => (nthS x.stops j).size) hk
    omega
  · have := le_upto (fun j => szLn (nthL x.lines j)) hk
    have e : szLn (nthL x.lines k) = (nthL x.lines k).name.size + (nthL x.lines k).stops.length + (nthL x.lines k).runs.length := rfl
    omega

set_option maxHeartbeats 1000000 in
theorem eqNetwork_same (x : NetD) (A L A' L' : Option Addr) (ca cl ca' cl' : Nat) (w : World) (h1 : StrsIn w (Zone.below w.heap.size) A x.stops) (h2 : LinesIn w (Zone.below w.heap.size) L x.lines) (h3 : StrsIn w (Zone.below w.heap.size) A' x.stops) (h4 : LinesIn w (Zone.below w.heap.size) L' x.lines) (hx : Fits x) :
    Calls Tryd.prog 7 #[.agg #[.slice A x.stops.length ca, .slice L x.lines.length cl], .agg #[.slice A' x.stops.length ca', .slice L' x.lines.length cl']] w fun e w' => e = .returned (.bool true) ∧ Below w.heap.size w w' := by
  have H1 := Lib.hid h1
  have H2 := Lib.hid h2
  have H3 := Lib.hid h3
  have H4 := Lib.hid h4
  have hns : ∀ k, k < x.lines.length → (nthL x.lines k).stops.length ≤ 1048576 ∧ (nthL x.lines k).runs.length ≤ 1048576 := fun k hk => (hx.each k hk).2
  have hn := hx.stops
  have hm := hx.lines
  clear h1 h2 h3 h4
  go_enter Tryd.func7, Tryd.ntmps7
  go_wp2_with fail
  refine (eqStringS_same _ _ _ _ _ _ _ _ (H1.out.call (by go_grown)) (H3.out.call (by go_grown)) hn).mono ?_
  rintro e w1 ⟨rfl, q, rfl⟩
  go_wp2_with fail
  refine (eqLineS_same _ _ _ _ _ _ (H2.out.call (bel_drewN (by go_grown) _)) (H4.out.call (bel_drewN (by go_grown) _)) hm hns).mono ?_
  rintro e w2 ⟨rfl, hb2⟩
  have HB2 : Hid (Below w.heap.size w w2) := bel_of (bel_drewN (by go_grown) _) (by simp; omega) hb2
  clear hb2
  go_wp2_with fail
  go_ret
  exact ⟨rfl, HB2.out⟩
end Go.Proofs.YtpipegdjflniaaaDoor
