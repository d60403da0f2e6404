/- Is a network valid? The program's checker. -/
import Derived.Test.YtemhcobjhpifpaaLi2
namespace Go.Proofs.Ytemhcobjhpifpaa
open Go.ChangeShapes Go.WideShapes Go.ChangeAt Go.RowKit Go.PlainAid
set_option linter.unusedVariables false

structure NetOk (x : NetD) : Prop where
  stops : inB x.stops.length 2 8 = true
  lines : inB x.lines.length 1 5 = true
  names : namesB x.stops = true
  lnames : namesB (namesOf x.lines) = true
  each : ∀ k, k < x.lines.length → lineB x.stops.length (nthL x.lines k) = true
theorem netOk_iff (x : NetD) : NetOk x ↔ (inB x.stops.length 2 8 = true ∧ inB x.lines.length 1 5 = true ∧ namesB x.stops = true ∧ namesB (namesOf x.lines) = true ∧ ∀ k, k < x.lines.length → lineB x.stops.length (nthL x.lines k) = true) :=
  ⟨fun h => ⟨h.1, h.2, h.3, h.4, h.5⟩, fun ⟨a, b, c, d, e⟩ => ⟨a, b, c, d, e⟩⟩
instance (x : NetD) : Decidable (NetOk x) := decidable_of_iff _ (netOk_iff x).symm
/-- Is it a valid network? -/
def netB (x : NetD) : Bool := decide (NetOk x)
theorem netB_no {x : NetD} (h : ¬ NetOk x) : netB x = false := decide_eq_false h
theorem netB_yes {x : NetD} (h : NetOk x) : netB x = true := decide_eq_true h
theorem netB_ok {x : NetD} (h : netB x = true) : NetOk x := of_decide_eq_true h

set_option maxRecDepth 100000 in
set_option maxHeartbeats 1000000 in
theorem isValidNetwork_any (x : NetD) (A L : Option Addr) (ca cl : Nat) (w : World) (hA : StrsIn w (Zone.below w.heap.size) A x.stops) (hL : LinesIn w (Zone.below w.heap.size) L x.lines) (hx : Fits x) :
    Calls Try.prog 42 #[.agg #[.slice A x.stops.length ca, .slice L x.lines.length cl]] w fun e w' => e = .returned (.bool (netB x)) ∧ Below w.heap.size w w' := by
  have HA := Lib.hid hA
  have HL := Lib.hid hL
  have hn := hx.stops
  have hm := hx.lines
  clear hA hL
  cases c1 : inB x.stops.length 2 8
  · have H := Lib.hid (netB_no (x := x) (fun h => by have := h.stops; rw [c1] at this; cases this))
    go_enter Try.func42, Try.ntmps42
    go_wp2_with (go_at_call 51; refine (within_any _ _ _ _).mono ?_; rintro e w1 ⟨rfl, rfl⟩)
    go_ret
    exact ⟨retB H.out.symm, by go_grown⟩
  cases c2 : inB x.lines.length 1 5
  · have H := Lib.hid (netB_no (x := x) (fun h => by have := h.lines; rw [c2] at this; cases this))
    go_enter Try.func42, Try.ntmps42
    go_wp2_with (go_at_call 51; refine (within_any _ _ _ _).mono ?_; rintro e w1 ⟨rfl, rfl⟩)
    go_ret
    exact ⟨retB H.out.symm, by go_grown⟩
  cases c3 : namesB x.stops
  · have H := Lib.hid (netB_no (x := x) (fun h => by have := h.names; rw [c3] at this; cases this))
    go_enter Try.func42, Try.ntmps42
    go_wp2_with (go_at_call 51; refine (within_any _ _ _ _).mono ?_; rintro e w1 ⟨rfl, rfl⟩)
    refine (areNames_any _ _ _ _ _ (HA.out.call (by go_grown)) hn).mono ?_
    rintro e w1 ⟨rfl, rfl⟩
    go_wp2_with fail
    go_ret
    exact ⟨retB H.out.symm, by go_grown⟩
  have hlen := namesOf_length x.lines
  have HC : Hid (inB x.stops.length 2 8 = true ∧ inB x.lines.length 1 5 = true ∧ namesB x.stops = true) := Lib.hid ⟨c1, c2, c3⟩
  go_enter Try.func42, Try.ntmps42
  go_wp2_with (go_at_call 51; refine (within_any _ _ _ _).mono ?_; rintro e w1 ⟨rfl, rfl⟩)
  refine (areNames_any _ _ _ _ _ (HA.out.call (by go_grown)) hn).mono ?_
  rintro e w1 ⟨rfl, rfl⟩
  go_wp2_with fail
  refine (lineNames_any x _ _ _ _ _ (HL.out.call (by go_grown)) hm).mono ?_
  rintro e w1 ⟨g, rfl, hi1, hb1⟩
  have HB1 : Hid (Below w.heap.size w w1) := bel_of (by go_grown) (by simp) hb1
  have HI1 := Lib.hid hi1
  have HN1 : Hid (Net2 w1 w.heap.size x A ca L cl) := Lib.hid (Net2.below ⟨by go_simp, by go_simp⟩ hb1 (by simp))
  have hz1 : w.heap.size < w1.heap.size := by have := hb1.size; simp at this; omega
  have HL1 := Lib.hid (HL.out.call HB1.out)
  obtain ⟨n0, n1⟩ := HN1.out
  clear hi1 hb1
  have hq := areNames_any (some ⟨g, 0, none⟩) x.lines.length (namesOf x.lines) w1 _ HI1.out (by omega)
  rw [hlen] at hq
  have HQ := Lib.hid hq
  clear hq hlen
  cases c4 : namesB (namesOf x.lines)
  · have H := Lib.hid (netB_no (x := x) (fun h => by have := h.lnames; rw [c4] at this; cases this))
    go_wp2_with fail
    refine HQ.out.mono ?_
    rintro e w2 ⟨rfl, rfl⟩
    go_wp2_with fail
    go_ret
    exact ⟨retB H.out.symm, HB1.out⟩
  go_wp2_with fail
  refine HQ.out.mono ?_
  rintro e w2 ⟨rfl, rfl⟩
  go_wp2_with fail
  go_loopw [32] (fun i wr => ∃ k : Nat, k ≤ x.lines.length ∧ i = .int .i64 k ∧ (∀ j, j < k → lineB x.stops.length (nthL x.lines j) = true) ∧ Below w1.heap.size w1 wr) (fun i _ => x.lines.length - (intOf i).toNat)
  case atStart => exact ⟨0, Nat.zero_le _, rfl, fun j hj => by omega, Below.refl _ _⟩
  case round =>
    obtain ⟨k, hk, rfl, ha, hb⟩ := hrel
    have HAl := Lib.hid ha
    have HB := Lib.hid hb
    have hz := hb.size
    have HNw := HN1.out.below hb hz1
    obtain ⟨m0, m1⟩ := HNw
    clear ha n0 n1
    by_cases hlt : k < x.lines.length
    · obtain ⟨b, o, rfl, hbl, S, cs, R, cr, hc0, hc1, hc2, hi1, hi2⟩ := LinesIn.line (HL1.out.at_below hb) hlt
      have hik : (k : Int) < (x.lines.length : Int) := by omega
      obtain ⟨_, e2, e3⟩ := hx.each k hlt
      have hzz : w.heap.size < wr.heap.size := by omega
      have H1 := Lib.hid (hi1.mono (Zone.below_le hz))
      have H2 := Lib.hid (hi2.mono (Zone.below_le hz))
      clear hb hi1 hi2
      cases hg : lineB x.stops.length (nthL x.lines k)
      · have H := Lib.hid (netB_no (x := x) (fun h => by have := h.each k hlt; rw [hg] at this; cases this))
        go_wp2_with fail
        refine (isValidLine_any x _ _ _ _ (nthL x.lines k) _ _ _ _ _ (H1.out.call (by go_grown)) (H2.out.call (by go_grown)) hn e2 e3).mono ?_
        rintro e w2 ⟨rfl, hb2⟩
        have HB2 : Hid (Below w1.heap.size w1 w2) := HB.out.trans (bel_of (B := wr.heap.size) (by go_grown) (by simp) hb2 |>.mono hz)
        clear hb2
        go_wp2_with fail
        go_ret
        exact ⟨retB H.out.symm, HB1.out.trans (HB2.out.mono HB1.out.size)⟩
      · go_wp2_with fail
        refine (isValidLine_any x _ _ _ _ (nthL x.lines k) _ _ _ _ _ (H1.out.call (by go_grown)) (H2.out.call (by go_grown)) hn e2 e3).mono ?_
        rintro e w2 ⟨rfl, hb2⟩
        have HB2 : Hid (Below w1.heap.size w1 w2) := HB.out.trans (bel_of (B := wr.heap.size) (by go_grown) (by simp) hb2 |>.mono hz)
        clear hb2
        go_wp2_with fail
        go_roundw
        case rel => exact ⟨k + 1, by omega, by go_num, fun j hj => by (by_cases e : j = k; (subst e; exact hg); exact HAl.out j (by omega)), HB2.out⟩
        case measure => simp [intOf]; omega
    · obtain rfl : k = x.lines.length := by omega
      have H := Lib.hid (netB_yes (x := x) ⟨HC.out.1, HC.out.2.1, HC.out.2.2, c4, HAl.out⟩)
      clear hb
      go_wp2_with fail
      go_ret
      exact ⟨retB H.out.symm, HB1.out.trans (HB.out.mono HB1.out.size)⟩
end Go.Proofs.Ytemhcobjhpifpaa
