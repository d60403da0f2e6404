/- Networks that are the call's own: marked and held. -/
import Derived.Test.YtambgommeannnaaNow
import Derived.Test.YtambgommeannnaaHst
namespace Go.Proofs.Ytambgommeannnaa
open Go.ChangeShapes Go.WideShapes Go.ChangeAt Go.RowKit Go.PlainAid
set_option linter.unusedVariables false
set_option linter.unusedSimpArgs false

set_option maxRecDepth 100000 in
set_option maxHeartbeats 2000000 in
theorem heldLineS_any (A : Option Addr) (c : Nat) (xs : List LineD) (K : Nat) (w : World) (h : LinesIn w (Zone.below w.heap.size) A (mkdL xs K xs.length)) (hn : cntLs xs xs.length ≤ 1048576) (hxl : xs.length ≤ 1048576) (h0 : 0 < K) (hK : K ≤ 1048576 * 1048576 - 3 * 1048576) :
    Calls Try.prog 120 #[.slice A xs.length c, .int .i64 (K : Nat)] w fun e w' => e = .returned (.int .i64 ((K + cntLs xs xs.length : Nat) : Int)) ∧ Below w.heap.size w w' := by
  have HX := Lib.hid h
  have HLe : Hid (∀ k, k < xs.length → cntLs xs (k + 1) ≤ cntLs xs xs.length) := Lib.hid (fun k hk => upto_le _ hk)
  clear h
  go_enter Try.func120, Try.ntmps120
  go_wp2_with fail
  go_loopw [1, 5] (fun s i wr => ∃ j : Nat, j ≤ xs.length ∧ i = .int .i64 j ∧ s = .int .i64 ((K + cntLs xs j : Nat) : Int) ∧ Below w.heap.size w wr) (fun _ i _ => xs.length - (intOf i).toNat)
  case atStart => exact ⟨0, Nat.zero_le _, rfl, rfl, Below.refl _ _⟩
  case round =>
    obtain ⟨k, hk, rfl, rfl, hb⟩ := hrel
    have HB := Lib.hid hb
    clear hb
    by_cases hlt : k < xs.length
    · obtain ⟨b, o, rfl, hbl, S, cs, R, cr, hc0', hc1', hc2', hi1', hi2'⟩ := LinesIn.line HX.out (k := k) (by rw [mkdL_length]; exact hlt)
      rw [mkdL_yes hlt hlt] at hc0' hc1' hc2' hi1' hi2'
      have hle := HLe.out k hlt
      have hu : cntLs xs (k + 1) = cntLs xs k + (1 + (nthL xs k).stops.length + (nthL xs k).runs.length) := rfl
      obtain ⟨P, hP⟩ : ∃ P : Nat, P = K + cntLs xs k := ⟨_, rfl⟩
      rw [← hP] at hc0' hc1' hc2' hi1' hi2' ⊢
      have HU := Lib.hid (show K + cntLs xs (k + 1) = P + 1 + (nthL xs k).stops.length + (nthL xs k).runs.length by omega)
      have hPl : P ≤ 1099511627776 - 2 * 1048576 := by omega
      have hP0 : 0 < P := by omega
      have hs1 : (nthL xs k).stops.length ≤ 1048576 := by omega
      have hs2 : (nthL xs k).runs.length ≤ 1048576 := by omega
      have HC0 : Hid (w.cell? ⟨b, o + k * 3, none⟩ = some (.string (mkT P))) := Lib.hid hc0'
      have HC1 : Hid (w.cell? ⟨b, o + k * 3 + 1, none⟩ = some (.slice S (nthL xs k).stops.length cs)) := Lib.hid (by rw [hc1']; show some (Value.slice S (marks _ _).length cs) = _; rw [marks_length])
      have HC2 : Hid (w.cell? ⟨b, o + k * 3 + 2, none⟩ = some (.slice R (nthL xs k).runs.length cr)) := Lib.hid (by rw [hc2']; show some (Value.slice R (marks _ _).length cr) = _; rw [marks_length])
      have HI1 : Hid (IntsIn w (Zone.below w.heap.size) S (marks (P + 1) (nthL xs k).stops.length)) := Lib.hid hi1'
      have HI2 : Hid (IntsIn w (Zone.below w.heap.size) R (marks (P + 1 + (nthL xs k).stops.length) (nthL xs k).runs.length)) := Lib.hid hi2'
      clear hc0' hc1' hc2' hi1' hi2' hu hP hle
      obtain ⟨wo, rfl⟩ : ∃ wo : World, wo = wr := ⟨_, rfl⟩
      have hD : ∀ w', Below wo.heap.size wo w' → w'.cell? ⟨b, o + k * 3, none⟩ = some (.string (mkT P)) := fun w' h => ((bel_call HB.out h).cell (p := ⟨b, _, none⟩) hbl).trans HC0.out
      have hik : (k : Int) < xs.length := by omega
      go_wp2_with fail
      go_region_held3 (fun w' => Below wo.heap.size wo w') (repeat' first | assumption | exact Nat.le_refl _ | exact Below.refl _ _ | (refine bel_drew ?_) | (refine bel_alloc ?_ _) | (refine bel_set ?_ ?_ _))
        (first
          | (go_at_call 167; refine (markText_any P _ hP0 (by omega)).mono ?_; rintro e w5 ⟨rfl, hb5⟩; have hB5 := bel_call ‹Below wo.heap.size wo _› hb5; clear hb5))
      all_goals
        have HB5 := Lib.hid (bel_call HB.out hB5)
        clear hD hB5
        generalize w5 = w6 at *
        have hc1 : w6.cell? ⟨b, o + k * 3 + 1, none⟩ = some (.slice S (nthL xs k).stops.length cs) := (HB5.out.cell (p := ⟨b, _, none⟩) hbl).trans HC1.out
        have hc2 : w6.cell? ⟨b, o + k * 3 + 2, none⟩ = some (.slice R (nthL xs k).runs.length cr) := (HB5.out.cell (p := ⟨b, _, none⟩) hbl).trans HC2.out
        have hq1 := heldIntS_any S cs (nthL xs k).stops.length (P + 1) w6 _ (HI1.out.at_below HB5.out) hs1 (by omega)
        have hq2 := heldIntS_any R cr (nthL xs k).runs.length (P + 1 + (nthL xs k).stops.length) w6 _ (HI2.out.at_below HB5.out) hs2 (by omega)
        push_cast at hq1 hq2
        have HQ1 := Lib.hid hq1
        have HQ2 := Lib.hid hq2
        clear hq1 hq2
        go_wp2_with fail
        refine HQ1.out.mono ?_
        rintro e w7 ⟨rfl, rfl⟩
        go_wp2_with fail
        refine HQ2.out.mono ?_
        rintro e w7 ⟨rfl, rfl⟩
        go_wp2_with fail
        go_roundw
        case rel => exact ⟨k + 1, by omega, by go_num, by rw [HU.out]; push_cast; rfl, HB5.out⟩
        case measure => simp [intOf]; omega
    · obtain rfl : k = xs.length := by omega
      go_wp2_with fail
      go_ret
      exact ⟨rfl, HB.out⟩

/-- A network of the call's own: stops in block s, lines in block g. -/
structure NOwn (w : World) (lo hi : Nat) (x : NetD) (A L : Option Addr) (s g : Nat) (p r : Nat → Nat) : Prop where
  at0 : L = some ⟨g, 0, none⟩
  stops : StrsIn w (Zone.one s) A x.stops
  lines : LOwn w g x.lines p r
  apart : Apart lo hi g x.lines.length p r
  s0 : lo ≤ s
  s1 : s < hi
  off : Off g x.lines.length p r s
theorem LOwn.keepP {w w' : World} {g : Nat} {xs : List LineD} {p r : Nat → Nat} (h : LOwn w g xs p r) (hg : Same w w' g) (hp : ∀ k, k < xs.length → Same w w' (p k)) (hr : ∀ k, k < xs.length → Same w w' (r k)) : LOwn w' g xs p r :=
  ⟨fun j => (hg j).2.trans (h.free j), fun k hk => (h.each k hk).keep (fun i _ => (hg _).1) (hp k hk) (hr k hk)⟩
theorem NOwn.keep {w w' : World} {lo hi : Nat} {x : NetD} {A L : Option Addr} {s g : Nat} {p r : Nat → Nat} (h : NOwn w lo hi x A L s g p r) (hs : ∀ c, lo ≤ c ∧ c < hi → Same w w' c) : NOwn w' lo hi x A L s g p r :=
  ⟨h.at0, h.stops.keep fun c hc => by rw [Zone.one_ok hc]; exact hs _ ⟨h.s0, h.s1⟩, h.lines.keep h.apart hs, h.apart, h.s0, h.s1, h.off⟩
theorem NOwn.stopsIn {w : World} {lo hi : Nat} {x : NetD} {A L : Option Addr} {s g : Nat} {p r : Nat → Nat} (h : NOwn w lo hi x A L s g p r) : StrsIn w (Zone.new lo hi) A x.stops := h.stops.mono (Zone.one_le h.s0 h.s1)
theorem NOwn.linesIn {w : World} {lo hi : Nat} {x : NetD} {A L : Option Addr} {s g : Nat} {p r : Nat → Nat} (h : NOwn w lo hi x A L s g p r) : LinesIn w (Zone.new lo hi) L x.lines := by rw [h.at0]; exact h.lines.lines h.apart

set_option maxRecDepth 100000 in
set_option maxHeartbeats 1000000 in
theorem markNetwork_own (lo hi : Nat) (x : NetD) (A L : Option Addr) (ca cl K s g : Nat) (p r : Nat → Nat) (w : World) (h : NOwn w lo hi x A L s g p r) (hh : hi ≤ w.heap.size) (hn : szNet x ≤ 1048576) (h0 : 0 < K) (hK : K ≤ 1048576 * 1048576 - 4 * 1048576) :
    Calls Try.prog 41 #[.agg #[.slice A x.stops.length ca, .slice L x.lines.length cl], .int .i64 (K : Nat)] w fun e w' => e = .returned (.int .i64 ((K + cntN x : Nat) : Int)) ∧ Mk lo hi w w' ∧ StrsIn w' (Zone.one s) A (marksS K x.stops.length) ∧ LOwn w' g (mkdL x.lines (K + x.stops.length) x.lines.length) p r ∧ ∀ t, t ≠ s → Off g x.lines.length p r t → t < w.heap.size → Same w w' t := by
  have hb : Below w.heap.size w (w.alloc (.cells #[.slice A x.stops.length ca, .slice L x.lines.length cl] 46)) := by go_grown
  have HB := Lib.hid hb
  have hs0 := h.s0
  have hs1 := h.s1
  have HOff := Lib.hid h.off
  have HAp := Lib.hid h.apart
  have HA : Hid (StrsIn (w.alloc (.cells #[.slice A x.stops.length ca, .slice L x.lines.length cl] 46)) (Zone.one s) A x.stops) := Lib.hid (h.stops.new_call hb (by omega))
  have HLO := Lib.hid (h.lines.call h.apart hb hh)
  obtain rfl := h.at0
  have hsn : szNet x = szSs x.stops + szLns x.lines := rfl
  have hss : szSs x.stops = x.stops.length + upto (fun j => (nthS x.stops j).size) x.stops.length := rfl
  have HM0 : Hid (Mk lo hi w (w.alloc (.cells #[.slice A x.stops.length ca, .slice (some ⟨g, 0, none⟩) x.lines.length cl] 46))) := Lib.hid (Mk.of_below hb hh)
  have hlo : szLns x.lines ≤ 1048576 := by omega
  have hst : x.stops.length ≤ 1048576 := by omega
  have hzz : w.heap.size < (w.alloc (.cells #[.slice A x.stops.length ca, .slice (some ⟨g, 0, none⟩) x.lines.length cl] 46)).heap.size := by simp
  have hcn : cntN x = x.stops.length + cntLs x.lines x.lines.length := rfl
  have HCn := Lib.hid hcn
  have hq := markStringS_any s (s + 1) A ca x.stops K _ HA.out (by omega) hst h0 (by omega)
  have hc1 : (w.alloc (.cells #[.slice A x.stops.length ca, .slice (some ⟨g, 0, none⟩) x.lines.length cl] 46)).cell? ⟨w.heap.size, 1, none⟩ = some (.slice (some ⟨g, 0, none⟩) x.lines.length cl) := by go_simp
  push_cast at hq
  have HQ := Lib.hid hq
  have HC1 := Lib.hid hc1
  clear h hb hsn hss hcn hq hc1
  go_enter Try.func41, Try.ntmps41
  go_wp2_with fail
  generalize (w.alloc (.cells #[.slice A x.stops.length ca, .slice (some ⟨g, 0, none⟩) x.lines.length cl] 46)) = w0 at *
  refine HQ.out.mono ?_
  rintro e w1 ⟨rfl, hm1, hst1⟩
  have HS1 := Lib.hid hst1
  have HM1 := Lib.hid hm1
  have hc1 : w1.cell? ⟨w.heap.size, 1, none⟩ = some (.slice (some ⟨g, 0, none⟩) x.lines.length cl) := hm1.cell_same (by omega) HC1.out
  have hz1 := hm1.size
  have hgo := HAp.out.g1
  have HL1 : Hid (LOwn w1 g x.lines p r) := Lib.hid (HLO.out.keepP (hm1.same (by have := HOff.out.1; omega) (by omega)) (fun k hk => hm1.same (by have := (HOff.out.2 k hk).1; omega) (by have := HAp.out.p0 k hk; omega)) (fun k hk => hm1.same (by have := (HOff.out.2 k hk).2; omega) (by have := HAp.out.r0 k hk; omega)))
  have hcl := cntLs_le x.lines
  have hxl : x.lines.length ≤ szLns x.lines := by unfold szLns; omega
  have hq := markLineS_own lo hi g p r cl x.lines (K + x.stops.length) _ HL1.out HAp.out (by omega) (by omega) (by omega) (by omega) (by omega)
  push_cast at hq
  have HQ2 := Lib.hid hq
  clear hm1 hcl hxl hq hst1
  go_wp2_with fail
  refine HQ2.out.mono ?_
  rintro e w2 ⟨rfl, hm2, hl2, ht2⟩
  have HM2 := Lib.hid hm2
  have HL2 := Lib.hid hl2
  have HT2 := Lib.hid ht2
  clear hm2 hc1 hl2 ht2
  go_wp2_with fail
  go_ret
  refine ⟨retI (by rw [HCn.out]; push_cast; omega), (HM0.out.trans (HM1.out.wider hs0 hs1 (by omega))).trans HM2.out, HS1.out.keep fun c hc => by rw [Zone.one_ok hc]; exact HT2.out _ HOff.out (by omega), HL2.out, fun t hts hto htw => ?_⟩
  exact ((Same.of_below HB.out htw).trans (HM1.out.same (by omega) (by omega))).trans (HT2.out t hto (by omega))

set_option maxRecDepth 100000 in
set_option maxHeartbeats 1000000 in
theorem heldNetwork_any (x : NetD) (A L : Option Addr) (ca cl K : Nat) (w : World) (hA : StrsIn w (Zone.below w.heap.size) A (marksS K x.stops.length)) (hL : LinesIn w (Zone.below w.heap.size) L (mkdL x.lines (K + x.stops.length) x.lines.length)) (hn : szNet x ≤ 1048576) (h0 : 0 < K) (hK : K ≤ 1048576 * 1048576 - 4 * 1048576) :
    Calls Try.prog 42 #[.agg #[.slice A x.stops.length ca, .slice L x.lines.length cl], .int .i64 (K : Nat)] w fun e w' => e = .returned (.int .i64 ((K + cntN x : Nat) : Int)) ∧ Below w.heap.size w w' := by
  have hb : Below w.heap.size w (w.alloc (.cells #[.slice A x.stops.length ca, .slice L x.lines.length cl] 46)) := by go_grown
  have HB := Lib.hid hb
  have HA := Lib.hid (hA.call hb)
  have HL := Lib.hid (hL.call hb)
  have hsn : szNet x = szSs x.stops + szLns x.lines := rfl
  have hss : szSs x.stops = x.stops.length + upto (fun j => (nthS x.stops j).size) x.stops.length := rfl
  have hlo : szLns x.lines ≤ 1048576 := by omega
  have hst : x.stops.length ≤ 1048576 := by omega
  have hzz : w.heap.size < (w.alloc (.cells #[.slice A x.stops.length ca, .slice L x.lines.length cl] 46)).heap.size := by simp
  have hcn : cntN x = x.stops.length + cntLs x.lines x.lines.length := rfl
  have HCn := Lib.hid hcn
  have hcl := cntLs_le x.lines
  have hxl : x.lines.length ≤ szLns x.lines := by unfold szLns; omega
  have hq := heldStringS_any A ca x.stops.length K _ HA.out hst h0 (by omega)
  have hc1 : (w.alloc (.cells #[.slice A x.stops.length ca, .slice L x.lines.length cl] 46)).cell? ⟨w.heap.size, 1, none⟩ = some (.slice L x.lines.length cl) := by go_simp
  push_cast at hq
  have HQ := Lib.hid hq
  have HC1 := Lib.hid hc1
  clear hA hL hb hsn hss hcn hq hc1
  go_enter Try.func42, Try.ntmps42
  go_wp2_with fail
  generalize (w.alloc (.cells #[.slice A x.stops.length ca, .slice L x.lines.length cl] 46)) = w0 at *
  refine HQ.out.mono ?_
  rintro e w1 ⟨rfl, hb1⟩
  have HB1 := Lib.hid (bel_call HB.out hb1)
  have hc1 : w1.cell? ⟨w.heap.size, 1, none⟩ = some (.slice L x.lines.length cl) := (hb1.cell (p := ⟨w.heap.size, 1, none⟩) hzz).trans HC1.out
  have hq := heldLineS_any L cl x.lines (K + x.stops.length) w1 (HL.out.call hb1) (by omega) (by omega) (by omega) (by omega)
  push_cast at hq
  have HQ2 := Lib.hid hq
  clear hb1 hq
  go_wp2_with fail
  refine HQ2.out.mono ?_
  rintro e w2 ⟨rfl, hb2⟩
  have HB2 := Lib.hid (bel_call HB1.out hb2)
  clear hb2 hc1
  go_wp2_with fail
  go_ret
  exact ⟨retI (by rw [HCn.out]; push_cast; omega), HB2.out⟩
end Go.Proofs.Ytambgommeannnaa
