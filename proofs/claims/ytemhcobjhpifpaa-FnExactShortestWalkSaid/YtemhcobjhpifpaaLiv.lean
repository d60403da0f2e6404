/- Is a line valid? The two checkers. -/
import Derived.Test.YtemhcobjhpifpaaLin
namespace Go.Proofs.Ytemhcobjhpifpaa
open Go.ChangeShapes Go.WideShapes Go.ChangeAt Go.RowKit Go.PlainAid
set_option linter.unusedVariables false

theorem Sl.at {w : World} {B : Nat} {A : Option Addr} {xs : List Int} (h : Sl eInt (fun j => j) w (Zone.below B) A xs) : IntsAt w B A xs := IntsIn.at h

def LineHd (x : LineD) : Prop := 2 ≤ x.stops.length ∧ x.stops.length ≤ 6 ∧ x.runs.length + 1 = x.stops.length
def StopOk (n : Nat) (x : LineD) (k : Nat) : Prop := inB (nth x.stops k) 0 (n - 1) = true ∧ ixI x.stops (nth x.stops k) = k
def RunOk (x : LineD) (k : Nat) : Prop := inB (nth x.runs k) 1 60 = true
def LineOk (n : Nat) (x : LineD) : Prop := LineHd x ∧ (∀ k, k < x.stops.length → StopOk n x k) ∧ ∀ k, k < x.runs.length → RunOk x k
instance (n : Nat) (x : LineD) : Decidable (LineOk n x) := by unfold LineOk LineHd StopOk RunOk; exact inferInstance
/-- Are a line's stops and runs valid? -/
def lineB (n : Nat) (x : LineD) : Bool := decide (LineOk n x)
theorem lineB_no {n : Nat} {x : LineD} (h : ¬ LineOk n x) : lineB n x = false := decide_eq_false h
theorem lineB_yes {n : Nat} {x : LineD} (h : LineOk n x) : lineB n x = true := decide_eq_true h

/-- The cells of a network and of a line in boxes. -/
def Net2 (w : World) (g : Nat) (x : NetD) (A : Option Addr) (ca : Nat) (L : Option Addr) (cl : Nat) : Prop :=
  w.cell? ⟨g, 0, none⟩ = some (.slice A x.stops.length ca) ∧ w.cell? ⟨g, 1, none⟩ = some (.slice L x.lines.length cl)
def Lin3 (w : World) (g : Nat) (x : LineD) (A : Option Addr) (ca : Nat) (R : Option Addr) (cr : Nat) : Prop :=
  w.cell? ⟨g, 0, none⟩ = some (.string x.name) ∧ w.cell? ⟨g, 1, none⟩ = some (.slice A x.stops.length ca) ∧ w.cell? ⟨g, 2, none⟩ = some (.slice R x.runs.length cr)
theorem Net2.below {w w' : World} {g : Nat} {x : NetD} {A L : Option Addr} {ca cl : Nat} {B : Nat} (h : Net2 w g x A ca L cl) (hb : Below B w w') (hg : g < B) : Net2 w' g x A ca L cl :=
  ⟨(hb.cell (p := ⟨g, 0, none⟩) hg).trans h.1, (hb.cell (p := ⟨g, 1, none⟩) hg).trans h.2⟩
theorem Lin3.below {w w' : World} {g : Nat} {x : LineD} {A R : Option Addr} {ca cr : Nat} {B : Nat} (h : Lin3 w g x A ca R cr) (hb : Below B w w') (hg : g < B) : Lin3 w' g x A ca R cr :=
  ⟨(hb.cell (p := ⟨g, 0, none⟩) hg).trans h.1, (hb.cell (p := ⟨g, 1, none⟩) hg).trans h.2.1, (hb.cell (p := ⟨g, 2, none⟩) hg).trans h.2.2⟩

set_option maxRecDepth 100000 in
set_option maxHeartbeats 1000000 in
theorem isValidLine_any (x : NetD) (A L : Option Addr) (ca cl : Nat) (y : LineD) (S R : Option Addr) (cs cr : Nat) (w : World) (hS : IntsIn w (Zone.below w.heap.size) S y.stops) (hR : IntsIn w (Zone.below w.heap.size) R y.runs)
    (hn : x.stops.length ≤ 1048576) (hy : y.stops.length ≤ 1048576) (hr : y.runs.length ≤ 1048576) :
    Calls Try.prog 54 #[.agg #[.slice A x.stops.length ca, .slice L x.lines.length cl], .agg #[.string y.name, .slice S y.stops.length cs, .slice R y.runs.length cr]] w fun e w' => e = .returned (.bool (lineB x.stops.length y)) ∧ Below w.heap.size w w' := by
  have HS := Lib.hid hS
  have HR := Lib.hid hR
  clear hS hR
  by_cases hh : LineHd y
  · have HH := Lib.hid hh
    unfold LineHd at hh
    have hi : inB y.stops.length 2 6 = true := inB_yes (by omega) (by omega)
    have hq : (y.runs.length : Int) = y.stops.length - 1 := by omega
    go_enter Try.func54, Try.ntmps54
    go_wp2_with (go_at_call 51; refine (within_any _ _ _ _).mono ?_; rintro e w1 ⟨rfl, rfl⟩)
    have HN0 : Hid (Net2 ((w.alloc (.cells #[.slice A x.stops.length ca, .slice L x.lines.length cl] 34)).alloc (.cells #[.string y.name, .slice S y.stops.length cs, .slice R y.runs.length cr] 72)) w.heap.size x A ca L cl) := Lib.hid ⟨by go_simp, by go_simp⟩
    have HL0 : Hid (Lin3 ((w.alloc (.cells #[.slice A x.stops.length ca, .slice L x.lines.length cl] 34)).alloc (.cells #[.string y.name, .slice S y.stops.length cs, .slice R y.runs.length cr] 72)) (w.heap.size + 1) y S cs R cr) := Lib.hid ⟨by go_simp, by go_simp, by go_simp⟩
    have HB0 : Hid (Below w.heap.size w ((w.alloc (.cells #[.slice A x.stops.length ca, .slice L x.lines.length cl] 34)).alloc (.cells #[.string y.name, .slice S y.stops.length cs, .slice R y.runs.length cr] 72))) := Lib.hid (by go_grown)
    have hz0 : w.heap.size + 1 < ((w.alloc (.cells #[.slice A x.stops.length ca, .slice L x.lines.length cl] 34)).alloc (.cells #[.string y.name, .slice S y.stops.length cs, .slice R y.runs.length cr] 72)).heap.size := by simp
    have HS0 := Lib.hid (HS.out.call HB0.out)
    have HR0 := Lib.hid (HR.out.call HB0.out)
    generalize (w.alloc (.cells #[.slice A x.stops.length ca, .slice L x.lines.length cl] 34)).alloc (.cells #[.string y.name, .slice S y.stops.length cs, .slice R y.runs.length cr] 72) = WW at *
    clear hh HS HR
    go_loopw [27] (fun i wr => ∃ k : Nat, k ≤ y.stops.length ∧ i = .int .i64 k ∧ (∀ j, j < k → StopOk x.stops.length y j) ∧ Below WW.heap.size WW wr) (fun i _ => y.stops.length - (intOf i).toNat)
    case atStart => exact ⟨0, Nat.zero_le _, rfl, fun j hj => by omega, Below.refl _ _⟩
    case round =>
      obtain ⟨k, hk, rfl, ha, hb⟩ := hrel
      have HA := Lib.hid ha
      have HB := Lib.hid hb
      have HNw := HN0.out.below hb (by omega)
      have HLw := HL0.out.below hb (by omega)
      have hS1 := Lib.hid (HS0.out.call hb)
      have hR1 := Lib.hid (HR0.out.call hb)
      have hz := hb.size
      clear ha hb
      by_cases hlt : k < y.stops.length
      · have HNwH := Lib.hid HNw
        have HLwH := Lib.hid HLw
        obtain ⟨n0, n1⟩ := HNw
        obtain ⟨l0, l1, l2⟩ := HLw
        obtain ⟨b, o, rfl, hbl, hc⟩ := hS1.out.at.get hlt
        have hi1 : (k : Int) < (y.stops.length : Int) := by omega
        by_cases hg : StopOk x.stops.length y k
        · have HG : Hid (∀ j, j < k + 1 → StopOk x.stops.length y j) := Lib.hid (fun j hj => by
            by_cases e : j = k
            · subst e; exact hg
            · exact HA.out j (by omega))
          obtain ⟨hg1, hg2⟩ := hg
          go_wp2_with fail
          refine (isStop_any x _ _ _ _ _ _ hn).mono ?_
          rintro e w1 ⟨rfl, hb1⟩
          have HB1 := Lib.hid (HB.out.trans (hb1.mono hz))
          obtain ⟨m0, m1, m2⟩ := HLwH.out.below hb1 (by omega)
          have hS2 := Lib.hid (hS1.out.call hb1)
          clear hb1
          go_wp2_with (go_at_call 63; refine (slicesIndex_any _ _ _ _ _ hS2.out.at hy).mono ?_; rintro e w2 ⟨rfl, rfl⟩)
          go_roundw
          case rel => exact ⟨k + 1, by omega, by go_num, HG.out, HB1.out⟩
          case measure => simp [intOf]; omega
        · have H := Lib.hid (lineB_no (n := x.stops.length) (x := y) (fun h => hg (h.2.1 k hlt)))
          have HX : Hid (inB (nth y.stops k) 0 (x.stops.length - 1) = true → ¬ ixI y.stops (nth y.stops k) = k) := Lib.hid (fun h1 h2 => hg ⟨h1, h2⟩)
          clear hg
          cases hg1 : inB (nth y.stops k) 0 (x.stops.length - 1)
          · go_wp2_with fail
            refine (isStop_any x _ _ _ _ _ _ hn).mono ?_
            rintro e w1 ⟨rfl, hb1⟩
            have HB1 := Lib.hid (HB.out.trans (hb1.mono hz))
            clear hb1
            go_wp2_with fail
            go_ret
            exact ⟨retB H.out.symm, HB0.out.trans (HB1.out.mono HB0.out.size)⟩
          · have hg2 := HX.out hg1
            go_wp2_with fail
            refine (isStop_any x _ _ _ _ _ _ hn).mono ?_
            rintro e w1 ⟨rfl, hb1⟩
            have HB1 := Lib.hid (HB.out.trans (hb1.mono hz))
            obtain ⟨m0, m1, m2⟩ := HLwH.out.below hb1 (by omega)
            have hS2 := Lib.hid (hS1.out.call hb1)
            clear hb1
            go_wp2_with (go_at_call 63; refine (slicesIndex_any _ _ _ _ _ hS2.out.at hy).mono ?_; rintro e w2 ⟨rfl, rfl⟩)
            go_ret
            exact ⟨retB H.out.symm, HB0.out.trans (HB1.out.mono HB0.out.size)⟩
      · obtain rfl : k = y.stops.length := by omega
        obtain ⟨l0, l1, l2⟩ := HLw
        clear HNw
        go_wp2_with fail
        go_loopw [48] (fun i wz => ∃ k : Nat, k ≤ y.runs.length ∧ i = .int .i64 k ∧ (∀ j, j < k → RunOk y j) ∧ wr = wz) (fun i _ => y.runs.length - (intOf i).toNat)
        case atStart => exact ⟨0, Nat.zero_le _, rfl, fun j hj => by omega, rfl⟩
        case round =>
          obtain ⟨k, hk2, rfl, ha, rfl⟩ := hrel
          have HC := Lib.hid ha
          clear ha
          by_cases hlt : k < y.runs.length
          · obtain ⟨b, o, rfl, hbl, hc⟩ := hR1.out.at.get hlt
            have hi1 : (k : Int) < (y.runs.length : Int) := by omega
            cases hg : inB (nth y.runs k) 1 60
            · have H := Lib.hid (lineB_no (n := x.stops.length) (x := y) (fun h => by have := h.2.2 k hlt; unfold RunOk at this; rw [hg] at this; cases this))
              go_wp2_with (go_at_call 51; refine (within_any _ _ _ _).mono ?_; rintro e w1 ⟨rfl, rfl⟩)
              go_ret
              exact ⟨retB H.out.symm, HB0.out.trans (HB.out.mono HB0.out.size)⟩
            · go_wp2_with (go_at_call 51; refine (within_any _ _ _ _).mono ?_; rintro e w1 ⟨rfl, rfl⟩)
              go_roundw
              case rel => exact ⟨k + 1, by omega, by go_num, fun j hj => by (by_cases e : j = k; (subst e; exact hg); exact HC.out j (by omega)), trivial⟩
              case measure => simp [intOf]; omega
          · obtain rfl : k = y.runs.length := by omega
            have H := Lib.hid (lineB_yes (n := x.stops.length) (x := y) ⟨HH.out, HA.out, HC.out⟩)
            go_wp2_with fail
            go_ret
            exact ⟨retB H.out.symm, HB0.out.trans (HB.out.mono HB0.out.size)⟩
  · have H := Lib.hid (lineB_no (n := x.stops.length) (x := y) (fun h => hh h.1))
    unfold LineHd at hh
    go_enter Try.func54, Try.ntmps54
    by_cases hi0 : 2 ≤ y.stops.length ∧ y.stops.length ≤ 6
    · have hi : inB y.stops.length 2 6 = true := inB_yes (by omega) (by omega)
      have hq : ¬ (y.runs.length : Int) = y.stops.length - 1 := by omega
      go_wp2_with (go_at_call 51; refine (within_any _ _ _ _).mono ?_; rintro e w1 ⟨rfl, rfl⟩)
      go_ret
      exact ⟨retB H.out.symm, by go_grown⟩
    · have hi : inB y.stops.length 2 6 = false := inB_no (by omega)
      go_wp2_with (go_at_call 51; refine (within_any _ _ _ _).mono ?_; rintro e w1 ⟨rfl, rfl⟩)
      go_ret
      exact ⟨retB H.out.symm, by go_grown⟩
end Go.Proofs.Ytemhcobjhpifpaa
