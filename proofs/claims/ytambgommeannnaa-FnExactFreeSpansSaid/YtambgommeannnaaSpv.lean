/- Spans: the checkers; counts. -/
import Derived.Test.YtambgommeannnaaSpn
import Derived.Test.YtambgommeannnaaArr
import Derived.Test.YtambgommeannnaaBtp
namespace Go.Proofs.Ytambgommeannnaa
open Go.ChangeShapes Go.WideShapes Go.ChangeAt Go.RowKit Go.PlainAid
set_option linter.unusedVariables false

/-- Is it a time? -/
def tmB (t : Int) : Bool := decide (0 ≤ t ∧ t ≤ 1799)
theorem tmB_yes {t : Int} (h0 : 0 ≤ t) (h1 : t ≤ 1799) : tmB t = true := by simp [tmB, h0, h1]
theorem tmB_iff {t : Int} : tmB t = true ↔ 0 ≤ t ∧ t ≤ 1799 := by simp [tmB]
/-- Is it a span? -/
def spB (x y : Int) : Bool := tmB x && (tmB y && decide (x ≤ y))
theorem spB_iff {x y : Int} : spB x y = true ↔ 0 ≤ x ∧ x ≤ y ∧ y ≤ 1799 := by
  unfold spB tmB
  simp
  omega
def SpansOk (xs : List I2) : Prop := xs.length ≤ 20 ∧ ∀ k, k < xs.length → spB (nth2 xs k).a (nth2 xs k).b = true
instance (xs : List I2) : Decidable (SpansOk xs) := by unfold SpansOk; exact inferInstance
/-- Are they spans? -/
def spansB (xs : List I2) : Bool := decide (SpansOk xs)
theorem spansB_no {xs : List I2} (h : ¬ SpansOk xs) : spansB xs = false := decide_eq_false h
theorem spansB_yes {xs : List I2} (h : SpansOk xs) : spansB xs = true := decide_eq_true h
theorem spansB_ok {xs : List I2} (h : spansB xs = true) : SpansOk xs := of_decide_eq_true h

theorem isValidTime_any (t : Int) (w : World) :
    Calls Try.prog 89 #[.int .i64 t] w fun e w' => e = .returned (.bool (tmB t)) ∧ w = w' := by
  unfold tmB
  by_cases h1 : 0 ≤ t
  all_goals
    go_enter Try.func89, Try.ntmps89
    go_wp2_with (first | go_in | fail)
    go_ret
    refine ⟨retB ?_, rfl⟩
    simp [h1]
  all_goals omega

theorem l4Time_any (t : Int) (w : World) :
    Calls Try.prog 81 #[.int .i64 t] w fun e w' => e = .returned (.bool (tmB t)) ∧ w = w' := by
  unfold tmB
  by_cases h1 : 0 ≤ t
  all_goals
    go_enter Try.func81, Try.ntmps81
    go_wp2_with (first | go_in | fail)
    go_ret
    refine ⟨retB ?_, rfl⟩
    simp [h1]
  all_goals omega

theorem isSpan_any (x y : Int) (w : World) :
    Calls Try.prog 128 #[.agg #[.int .i64 x, .int .i64 y]] w fun e w' => e = .returned (.bool (spB x y)) ∧ Below w.heap.size w w' := by
  unfold spB
  cases hx : tmB x
  all_goals cases hy : tmB y
  all_goals
    go_enter Try.func128, Try.ntmps128
    go_wp2_with (go_at_call 89; refine (isValidTime_any _ _).mono ?_; rintro e w1 ⟨rfl, rfl⟩)
    go_ret
    refine ⟨retB ?_, by go_grown⟩
    simp

theorem l4Span_any (x y : Int) (w : World) :
    Calls Try.prog 127 #[.agg #[.int .i64 x, .int .i64 y]] w fun e w' => e = .returned (.bool (spB x y)) ∧ Below w.heap.size w w' := by
  unfold spB
  cases hx : tmB x
  all_goals cases hy : tmB y
  all_goals
    go_enter Try.func127, Try.ntmps127
    go_wp2_with (go_at_call 81; refine (l4Time_any _ _).mono ?_; rintro e w1 ⟨rfl, rfl⟩)
    go_ret
    refine ⟨retB ?_, by go_grown⟩
    simp

set_option maxHeartbeats 1000000 in
theorem l4Spans_any (A : Option Addr) (c : Nat) (xs : List I2) (w : World) (h : I2sIn w (Zone.below w.heap.size) A xs) (hn : xs.length ≤ 1048576) :
    Calls Try.prog 121 #[.slice A xs.length c] w fun e w' => e = .returned (.bool (spansB xs)) ∧ Below w.heap.size w w' := by
  have HX := Lib.hid h
  clear h
  go_enter Try.func121, Try.ntmps121
  go_wp2
  go_loopw [3] (fun i wr => ∃ k : Nat, k ≤ xs.length ∧ k ≤ 21 ∧ i = .int .i64 k ∧ (∀ j, j < k → spB (nth2 xs j).a (nth2 xs j).b = true) ∧ Below w.heap.size w wr) (fun i _ => 21 - (intOf i).toNat)
  case atStart => exact ⟨0, Nat.zero_le _, by omega, rfl, fun j hj => by omega, Below.refl _ _⟩
  case round =>
    obtain ⟨k, hk, hk2, rfl, ha, hb⟩ := hrel
    have HA := Lib.hid ha
    have HB := Lib.hid hb
    clear ha
    by_cases hlt : k < xs.length
    · by_cases h20 : k ≤ 20
      · obtain ⟨b, o, rfl, hbl, hc0, hc1⟩ := I2sIn.at (HX.out.at_below hb) hlt
        have hi1 : (k : Int) < (xs.length : Int) := by omega
        clear hb
        cases hs : spB (nth2 xs k).a (nth2 xs k).b
        · have H := Lib.hid (spansB_no (xs := xs) (fun h => by have := h.2 k hlt; rw [hs] at this; cases this))
          go_wp2_with fail
          refine (l4Span_any _ _ _).mono ?_
          rintro e w1 ⟨rfl, hb1⟩
          have HB1 := Lib.hid (bel_of HB.out HB.out.size hb1)
          clear hb1
          go_wp2_with fail
          go_ret
          exact ⟨retB H.out.symm, HB1.out⟩
        · go_wp2_with fail
          refine (l4Span_any _ _ _).mono ?_
          rintro e w1 ⟨rfl, hb1⟩
          have HB1 := Lib.hid (bel_of HB.out HB.out.size hb1)
          clear hb1
          go_wp2_with fail
          go_roundw
          case rel => exact ⟨k + 1, by omega, by omega, by go_num, fun j hj => by (by_cases e : j = k; (subst e; exact hs); exact HA.out j (by omega)), HB1.out⟩
          case measure => simp [intOf]; omega
      · have H := Lib.hid (spansB_no (xs := xs) (fun h => by have := h.1; omega))
        have h21 : ¬ xs.length ≤ 20 := by omega
        clear hb
        go_wp2
        go_ret
        exact ⟨retB (by rw [H.out]; first | exact decide_eq_false (by omega) | exact decide_eq_true (by omega)), HB.out⟩
    · obtain rfl : k = xs.length := by omega
      clear hb
      by_cases h20 : xs.length ≤ 20
      · have H := Lib.hid (spansB_yes (xs := xs) ⟨h20, HA.out⟩)
        go_wp2
        go_ret
        exact ⟨retB (by rw [H.out]; first | exact decide_eq_false (by omega) | exact decide_eq_true (by omega)), HB.out⟩
      · have H := Lib.hid (spansB_no (xs := xs) (fun h => h20 h.1))
        go_wp2
        go_ret
        exact ⟨retB (by rw [H.out]; first | exact decide_eq_false (by omega) | exact decide_eq_true (by omega)), HB.out⟩

set_option maxHeartbeats 1000000 in
theorem areSpans_any (A : Option Addr) (c : Nat) (xs : List I2) (w : World) (h : I2sIn w (Zone.below w.heap.size) A xs) (hn : xs.length ≤ 1048576) :
    Calls Try.prog 123 #[.slice A xs.length c] w fun e w' => e = .returned (.bool (spansB xs)) ∧ Below w.heap.size w w' := by
  have HX := Lib.hid h
  clear h
  by_cases h20 : xs.length ≤ 20
  · go_enter Try.func123, Try.ntmps123
    go_wp2
    go_loopw [4, 10] (fun _ i wr => ∃ k : Nat, k ≤ xs.length ∧ i = .int .i64 k ∧ (∀ j, j < k → spB (nth2 xs j).a (nth2 xs j).b = true) ∧ Below w.heap.size w wr) (fun _ i _ => xs.length - (intOf i).toNat)
    case atStart => exact ⟨0, Nat.zero_le _, rfl, fun j hj => by omega, Below.refl _ _⟩
    case round =>
      obtain ⟨k, hk, rfl, ha, hb⟩ := hrel
      have HA := Lib.hid ha
      have HB := Lib.hid hb
      clear ha
      by_cases hlt : k < xs.length
      · obtain ⟨b, o, rfl, hbl, hc0, hc1⟩ := I2sIn.at (HX.out.at_below hb) hlt
        have hi1 : (k : Int) < (xs.length : Int) := by omega
        have HBw := Lib.hid (HB.out.alloc HB.out.size (.cells #[.int .i64 (nth2 xs k).a, .int .i64 (nth2 xs k).b] 82))
        clear hb
        cases hs : spB (nth2 xs k).a (nth2 xs k).b
        · have H := Lib.hid (spansB_no (xs := xs) (fun h => by have := h.2 k hlt; rw [hs] at this; cases this))
          go_wp2_with fail
          refine (isSpan_any _ _ _).mono ?_
          rintro e w1 ⟨rfl, hb1⟩
          have HB1 := Lib.hid (bel_of HBw.out HBw.out.size hb1)
          clear hb1
          go_wp2_with fail
          go_ret
          exact ⟨retB H.out.symm, HB1.out⟩
        · go_wp2_with fail
          refine (isSpan_any _ _ _).mono ?_
          rintro e w1 ⟨rfl, hb1⟩
          have HB1 := Lib.hid (bel_of HBw.out HBw.out.size hb1)
          clear hb1
          go_wp2_with fail
          go_roundw
          case rel => exact ⟨k + 1, by omega, by go_num, fun j hj => by (by_cases e : j = k; (subst e; exact hs); exact HA.out j (by omega)), HB1.out⟩
          case measure => simp [intOf]; omega
      · obtain rfl : k = xs.length := by omega
        clear hb
        have H := Lib.hid (spansB_yes (xs := xs) ⟨h20, HA.out⟩)
        go_wp2
        go_ret
        exact ⟨retB H.out.symm, HB.out⟩
  · have H := Lib.hid (spansB_no (xs := xs) (fun h => h20 h.1))
    go_enter Try.func123, Try.ntmps123
    go_wp2
    go_ret
    exact ⟨retB H.out.symm, Below.refl _ _⟩

/-- The counts while the k-th span is being counted, up to time t. -/
def cnF (xs : List I2) (k : Nat) (t : Int) (u : Nat) : Int := cnt2 xs u k + if (nth2 xs k).a ≤ u ∧ (u : Int) < t then 1 else 0
theorem cnF_at {xs : List I2} {k t : Nat} : cnF xs k t t = cnt2 xs t k := by unfold cnF; rw [if_neg (by omega)]; omega
theorem cnF_step {xs : List I2} {k t : Nat} (h : (nth2 xs k).a ≤ t) (u : Nat) : (if u = t then (cnt2 xs t k : Int) + 1 else cnF xs k t u) = cnF xs k ((t + 1 : Nat) : Int) u := by
  unfold cnF
  by_cases e : u = t
  · subst e; rw [if_pos rfl, if_pos ⟨h, by omega⟩]
  · rw [if_neg e]
    by_cases h2 : (nth2 xs k).a ≤ u ∧ (u : Int) < t
    · rw [if_pos h2, if_pos ⟨h2.1, by omega⟩]
    · rw [if_neg h2, if_neg (by omega)]
theorem cnF_end {xs : List I2} {k : Nat} (u : Nat) : cnF xs k (nth2 xs k).b u = cnt2 xs u (k + 1) := by
  unfold cnF
  by_cases h : inS (nth2 xs k) u
  · have h' : (nth2 xs k).a ≤ u ∧ (u : Int) < (nth2 xs k).b := h
    rw [cnt2_yes h, if_pos h']; omega
  · have h' : ¬ ((nth2 xs k).a ≤ u ∧ (u : Int) < (nth2 xs k).b) := h
    rw [cnt2_no h, if_neg h']; omega
theorem cnF_start {xs : List I2} {k : Nat} (u : Nat) : cnF xs k (nth2 xs k).a u = cnt2 xs u k := by
  unfold cnF
  rw [if_neg (by omega)]; omega

set_option maxRecDepth 100000 in
set_option maxHeartbeats 2000000 in
theorem l4Counts_any (A : Option Addr) (c : Nat) (xs : List I2) (w : World) (h : I2sIn w (Zone.below w.heap.size) A xs) (hv : SpansOk xs) :
    Calls Try.prog 122 #[.slice A xs.length c] w fun e w' => e = .returned (.slice (some ⟨w.heap.size, 0, none⟩) 1800 1800) ∧ ArrI w' w.heap.size 1800 (fun u => cAt xs u) ∧ Below w.heap.size w w' := by
  obtain ⟨i0, hi, hz0, hz1, hz2⟩ := info_parts Try.infoI
  have hmk := fun W => run_make_n (P := Try.prog) 22 3 i0 _ Try.underlying22 hi hz0 1800 1 8 hz1 hz2 (by omega) (by omega) W
  push_cast at hmk
  have HX := Lib.hid h
  have HV := Lib.hid hv
  have hl := hv.1
  clear h hv
  go_enter Try.func122, Try.ntmps122
  go_wp2
  go_loopw [4] (fun i wr => ∃ k : Nat, k ≤ xs.length ∧ i = .int .i64 k ∧ ArrI wr w.heap.size 1800 (fun u => cnt2 xs u k) ∧ Below w.heap.size w wr) (fun i _ => xs.length - (intOf i).toNat)
  case atStart => exact ⟨0, Nat.zero_le _, rfl, (ArrI.made w 1800 3).congr (fun j _ => rfl), (Below.refl _ _).alloc (Nat.le_refl _) _⟩
  case round =>
    obtain ⟨k, hk, rfl, ha, hb⟩ := hrel
    have HA := Lib.hid ha
    have HB := Lib.hid hb
    clear ha
    by_cases hlt : k < xs.length
    · obtain ⟨b, o, rfl, hbl, hc0, hc1⟩ := I2sIn.at (HX.out.at_below hb) hlt
      have HC1 := Lib.hid hc1
      have hsp := spB_iff.1 (HV.out.2 k hlt)
      have h1 := hsp.1
      have h2 := hsp.2.1
      have h3 := hsp.2.2
      have hik : (k : Int) < (xs.length : Int) := by omega
      have hblw : b < w.heap.size := hbl
      clear hb hsp
      go_wp2
      obtain ⟨wo, rfl⟩ : ∃ wo : World, wo = wr := ⟨_, rfl⟩
      go_loopw [5] (fun i wi => ∃ t : Nat, (nth2 xs k).a ≤ t ∧ (t : Int) ≤ (nth2 xs k).b ∧ i = .int .i64 t ∧ ArrI wi w.heap.size 1800 (cnF xs k t) ∧ Below w.heap.size w wi) (fun i _ => 1800 - (intOf i).toNat)
      case atStart => exact ⟨(nth2 xs k).a.toNat, by omega, by omega, by rw [Int.toNat_of_nonneg h1], HA.out.congr (fun j _ => by rw [Int.toNat_of_nonneg h1]; exact (cnF_start j).symm), HB.out⟩
      case round =>
        obtain ⟨t, ht1, ht2, rfl, hai, hbi⟩ := hrel
        have HAi := Lib.hid hai
        have HBi := Lib.hid hbi
        have hcb : wr.cell? ⟨b, o + k * 2 + 1, none⟩ = some (.int .i64 (nth2 xs k).b) := (hbi.cell (p := ⟨b, _, none⟩) hblw).trans ((HB.out.cell (p := ⟨b, _, none⟩) hblw).symm.trans HC1.out)
        clear hbi
        by_cases htb : (t : Int) < (nth2 xs k).b
        · have hct : wr.cell? ⟨w.heap.size, t, none⟩ = some (.int .i64 (cnt2 xs t k : Nat)) := by rw [hai.cells t (by omega), cnF_at]
          have hfr := hai.free t
          have hle := cnt2_le xs t k
          have hgl := hai.lt
          have hi2 : (t : Int) < 1800 := by omega
          have HS := Lib.hid ((hai.set (i := t) (by omega) ((cnt2 xs t k : Int) + 1)).congr (fun j _ => cnF_step ht1 j))
          clear hai
          go_wp2
          go_roundw
          case rel => exact ⟨t + 1, by omega, by omega, by go_num, HS.out, HBi.out.setCell (Nat.le_refl _) _⟩
          case measure => simp [intOf]; omega
        · have e : (t : Int) = (nth2 xs k).b := by omega
          have HN : Hid (ArrI wr w.heap.size 1800 (fun u => cnt2 xs u (k + 1))) := Lib.hid (hai.congr (fun j _ => by rw [e]; exact cnF_end j))
          clear hai e
          go_wp2
          go_roundw
          case rel => exact ⟨k + 1, by omega, by go_num, HN.out, HBi.out⟩
          case measure => simp [intOf]; omega
    · obtain rfl : k = xs.length := by omega
      clear hb
      go_wp2
      go_ret
      exact ⟨rfl, HA.out, HB.out⟩

end Go.Proofs.Ytambgommeannnaa
