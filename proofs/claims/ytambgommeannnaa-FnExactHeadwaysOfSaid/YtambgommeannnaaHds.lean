/- Headways: the reference. -/
import Derived.Test.YtambgommeannnaaHdr
namespace Go.Proofs.Ytambgommeannnaa
open Go.ChangeShapes Go.WideShapes Go.ChangeAt Go.RowKit Go.PlainAid
set_option linter.unusedVariables false
set_option linter.unusedSimpArgs false

set_option maxRecDepth 100000 in
set_option maxHeartbeats 4000000 in
theorem specHeadwaysOf_any (x : TTD) (A L T : Option Addr) (ca cl ct : Nat) (l : Int) (w : World) (hA : StrsIn w (Zone.below w.heap.size) A x.net.stops) (hL : LinesIn w (Zone.below w.heap.size) L x.net.lines) (hT : I3sIn w (Zone.below w.heap.size) T x.trips) (hx : FitsT x) :
    Calls Try.prog 60 #[.agg #[.slice A x.net.stops.length ca, .slice L x.net.lines.length cl, .slice T x.trips.length ct], .int .i64 l] w (RetInts (hwI x l) (hwB x l) w) := by
  have H0' : Hid (TtBox w (w.alloc (.cells #[.slice A x.net.stops.length ca, .slice L x.net.lines.length cl, .slice T x.trips.length ct] 49)) w.heap.size x A ca L cl T ct) := Lib.hid (TtBox.box hA hL hT)
  have H0 : Hid (TtBox w ((w.alloc (.cells #[.slice A x.net.stops.length ca, .slice L x.net.lines.length cl, .slice T x.trips.length ct] 49)).alloc (.cells #[] 3)) w.heap.size x A ca L cl T ct) := Lib.hid (H0'.out.call (by go_grown))
  have O0 : Hid (OwnI ((w.alloc (.cells #[.slice A x.net.stops.length ca, .slice L x.net.lines.length cl, .slice T x.trips.length ct] 49)).alloc (.cells #[] 3)) (w.heap.size + 1) (.slice (some ⟨w.heap.size + 1, 0, none⟩) 0 0) []) := Lib.hid (by simpa using OwnE.empty (e := 3) (m := 1) (enc := encI) (w := (w.alloc (.cells #[.slice A x.net.stops.length ca, .slice L x.net.lines.length cl, .slice T x.trips.length ct] 49))) (Nat.le_refl _))
  have hn := hx.trips
  have hm := hx.net.lines
  have hwl : IntKind.i64.wrap ((x.net.lines.length : Int) - 1) = (x.net.lines.length : Int) - 1 := IntWalk.i64_in _ (by omega)
  have hz0 : w.heap.size + 2 ≤ ((w.alloc (.cells #[.slice A x.net.stops.length ca, .slice L x.net.lines.length cl, .slice T x.trips.length ct] 49)).alloc (.cells #[] 3)).heap.size := by simp
  clear H0' hA hL hT
  cases g1 : ttB x
  · have hcd : hwB x l = false := by unfold hwB; rw [g1]; rfl
    have HN := Lib.hid (And.intro (hwI_no hcd) hcd)
    clear hcd
    go_enter Try.func60, Try.ntmps60
    go_wp2_with fail
    generalize ((w.alloc (.cells #[.slice A x.net.stops.length ca, .slice L x.net.lines.length cl, .slice T x.trips.length ct] 49)).alloc (.cells #[] 3)) = w0 at *
    refine (l5Good_any x _ _ _ _ _ _ _ H0.out.stops H0.out.lines H0.out.trips hx).mono ?_
    rintro e w1 ⟨rfl, hb1⟩
    have H1 := Lib.hid (H0.out.call hb1)
    have O1 := Lib.hid (O0.out.call hb1)
    have hz1 : w.heap.size + 2 ≤ w1.heap.size := Nat.le_trans hz0 hb1.size
    clear hb1
    obtain ⟨c0, c1, c2⟩ := H1.out.cells
    go_wp2_with (first | (go_at_call 69; refine (l1In_any _ _ _ _).mono ?_; rintro e wt ⟨rfl, rfl⟩))
    go_ret2
    rw [HN.out.1, HN.out.2]
    exact O1.out.ret (by omega) H1.out.bel
  cases g2 : inB l 0 (x.net.lines.length - 1)
  · have hcd : hwB x l = false := by unfold hwB; rw [g1, g2]; rfl
    have HN := Lib.hid (And.intro (hwI_no hcd) hcd)
    clear hcd
    go_enter Try.func60, Try.ntmps60
    go_wp2_with fail
    generalize ((w.alloc (.cells #[.slice A x.net.stops.length ca, .slice L x.net.lines.length cl, .slice T x.trips.length ct] 49)).alloc (.cells #[] 3)) = w0 at *
    refine (l5Good_any x _ _ _ _ _ _ _ H0.out.stops H0.out.lines H0.out.trips hx).mono ?_
    rintro e w1 ⟨rfl, hb1⟩
    have H1 := Lib.hid (H0.out.call hb1)
    have O1 := Lib.hid (O0.out.call hb1)
    have hz1 : w.heap.size + 2 ≤ w1.heap.size := Nat.le_trans hz0 hb1.size
    clear hb1
    obtain ⟨c0, c1, c2⟩ := H1.out.cells
    go_wp2_with (first | (go_at_call 69; refine (l1In_any _ _ _ _).mono ?_; rintro e wt ⟨rfl, rfl⟩))
    go_ret2
    rw [HN.out.1, HN.out.2]
    exact O1.out.ret (by omega) H1.out.bel
  have hcd : hwB x l = true := by unfold hwB; rw [g1, g2]; rfl
  have HY := Lib.hid (And.intro (hwI_yes hcd) hcd)
  have ht12 := (ttB_ok g1).2.1
  have HBD := Lib.hid (stF_bd g1 l)
  clear hcd
  go_enter Try.func60, Try.ntmps60
  go_wp2_with fail
  generalize ((w.alloc (.cells #[.slice A x.net.stops.length ca, .slice L x.net.lines.length cl, .slice T x.trips.length ct] 49)).alloc (.cells #[] 3)) = w0 at *
  refine (l5Good_any x _ _ _ _ _ _ _ H0.out.stops H0.out.lines H0.out.trips hx).mono ?_
  rintro e w1 ⟨rfl, hb1⟩
  have H1 := Lib.hid (H0.out.call hb1)
  have O1 := Lib.hid (O0.out.call hb1)
  have hz1 : w.heap.size + 2 ≤ w1.heap.size := Nat.le_trans hz0 hb1.size
  clear hb1
  obtain ⟨c0, c1, c2⟩ := H1.out.cells
  go_wp2_with (first | (go_at_call 69; refine (l1In_any _ _ _ _).mono ?_; rintro e wt ⟨rfl, rfl⟩))
  refine (l5Starts_any x _ _ _ _ _ _ l _ H1.out.stops H1.out.lines H1.out.trips ht12).mono ?_
  rintro e w3 ⟨A3, c3, rfl, hi3, hb3⟩
  have H3 := Lib.hid (H1.out.call hb3)
  have O3 := Lib.hid (O1.out.call hb3)
  have hz3 : w.heap.size + 2 ≤ w3.heap.size := Nat.le_trans hz1 hb3.size
  have hsl := stF_len x l x.trips.length
  have HI3 := Lib.hid hi3
  clear hb3 hi3 c0 c1 c2
  obtain ⟨xs, hxs⟩ : ∃ xs, xs = stF x l x.trips.length := ⟨_, rfl⟩
  rw [← hxs] at HI3 hsl HBD HY ⊢
  clear hxs
  obtain ⟨X, hX⟩ : ∃ X, (0 < xs.length → ∃ o, A3 = some ⟨X, o, none⟩ ∧ w1.heap.size ≤ X ∧ X < w3.heap.size ∧ ∀ j, j < xs.length → w3.cell? ⟨X, o + j, none⟩ = some (.int .i64 (nth xs j))) ∧ w1.heap.size ≤ X := by
    by_cases h : 0 < xs.length
    · obtain ⟨b, o, e, hz, _, hc⟩ := HI3.out h
      exact ⟨b, fun _ => ⟨o, e, hz.1, hz.2, hc⟩, hz.1⟩
    · exact ⟨w1.heap.size, fun h' => absurd h' h, Nat.le_refl _⟩
  have HX := Lib.hid hX.1
  have hX1 := hX.2
  have hXn : w.heap.size + 1 ≠ X := by omega
  clear hX
  go_wp2_with fail
  go_loopw [6, 8] (fun v i wr => ∃ k j : Nat, j = k + 1 ∧ k ≤ xs.length - 1 ∧ i = .int .i64 j ∧ OwnI wr (w.heap.size + 1) v (difF xs k) ∧ v.ownBlock ≠ some X ∧ (0 < xs.length → Stay X (w.heap.size + 1) w3 wr) ∧ Below (w.heap.size + 1) w3 wr) (fun _ i _ => xs.length - (intOf i).toNat)
  case atStart => exact ⟨0, 1, rfl, Nat.zero_le _, rfl, O3.out, by simp [Value.ownBlock]; omega, fun _ => Stay.refl _ _ _, Below.refl _ _⟩
  case round =>
    obtain ⟨k, j, hj, hk, rfl, ho, hv, hst, hb⟩ := hrel
    have O4 := Lib.hid ho
    have HV := Lib.hid hv
    have HST := Lib.hid hst
    have HB := Lib.hid hb
    have hz4 : w.heap.size + 1 ≤ wr.heap.size := Nat.le_trans (by omega) hb.size
    have H4 := Lib.hid (H3.out.callB hb (Nat.lt_succ_self _))
    have HDL := Lib.hid (difF_len xs k)
    have hws := hb.size
    clear ho hv hst hb
    have HJ := Lib.hid hj
    by_cases hlt : j < xs.length
    · obtain ⟨o, rfl, hX2, hX3, hcc⟩ := HX.out (by omega)
      have hXl : X < wr.heap.size := by omega
      have d2 : wr.cell? ⟨X, o + j, none⟩ = some (.int .i64 (nth xs j)) := ((HST.out (by omega)).2 _).trans (hcc j hlt)
      have d3 : wr.cell? ⟨X, o + k, none⟩ = some (.int .i64 (nth xs k)) := ((HST.out (by omega)).2 _).trans (hcc k (by omega))
      have u1 := HBD.out j hlt
      have u2 := HBD.out k (by omega)
      have HF : Hid (difF xs (k + 1) = difF xs k ++ [nth xs j - nth xs k]) := Lib.hid (by rw [HJ.out]; rfl)
      have hk1 : k < xs.length := by omega
      have hj1 : j ≤ 12 := by omega
      have hj0 : 0 < j := by omega
      have hwk : IntKind.i64.wrap ((j : Int) - 1) = (k : Int) := by rw [IntWalk.i64_in _ (by omega)]; omega
      have HJ2 := Lib.hid (show j + 1 = k + 1 + 1 by omega)
      have HS4 := Lib.hid (HST.out (by omega))
      clear hj hcc
      have hD : ∀ w', Stay X (w.heap.size + 1) wr w' → w'.cell? ⟨X, o + j, none⟩ = some (.int .i64 (nth xs j)) ∧ w'.cell? ⟨X, o + k, none⟩ = some (.int .i64 (nth xs k)) := fun w' h => ⟨(h.2 _).trans d2, (h.2 _).trans d3⟩
      clear d2 d3
      generalize nth xs j = p1 at *
      generalize nth xs k = p0 at *
      have hik : (j : Int) < (xs.length : Int) := by omega
      have hik0 : (k : Int) < (xs.length : Int) := by omega
      have hwr : IntKind.i64.wrap (p1 - p0) = p1 - p0 := IntWalk.i64_in _ (by omega)
      go_wp2_with fail
      go_region_held3 (fun w' => Stay X (w.heap.size + 1) wr w') (repeat' first | assumption | exact Stay.refl _ _ _ | exact hz4 | exact hXl | (refine Stay.drew ?_) | (refine Stay.alloc ?_ ?_ ?_ _))
        (first
          | (refine step_appsIX (by rfl) _ _ (by rfl) (w.heap.size + 1) _ (difF xs k) [p1 - p0] _ (OwnE.call O4.out (by (repeat' first | exact Below.refl _ _ | (refine bel_drew ?_) | (refine bel_alloc ?_ _) | exact Nat.le_refl _))) (by rfl) _ 0 1 1 (by rfl) (by rfl) (fun j hj => by (obtain rfl : j = 0 := by simpa using hj); first | (go_simp; done) | (go_simp; rfl)) (by have := HDL.out; simp; omega) (by first | exact hz4 | (simp; omega)) ?_; intro v6 w6 ho6 hb6' hg6 hv6; have hs6 : Stay X (w.heap.size + 1) wr w6 := Stay.grown (by assumption) hb6' hg6 HV.out (by first | exact hXl | (simp; omega)))
          | fail)
      have HV6 : Hid (v6.ownBlock ≠ some X) := Lib.hid (by
        rcases hv6 with h | h
        · rw [h]; exact HV.out
        · rw [h]; simp; omega)
      have HS6 := Lib.hid hs6
      have HO6 := Lib.hid ho6
      clear hD hb6' hg6 hv6 ho6
      go_wp2_with fail
      go_roundw
      case rel => exact ⟨k + 1, j + 1, HJ2.out, by have := HJ2.out; omega, by go_num, by rw [HF.out]; exact HO6.out, HV6.out, fun _ => HS4.out.trans HS6.out, HB.out.trans HS6.out.1⟩
      case measure => simp [intOf]; omega
    · obtain rfl : k = xs.length - 1 := by omega
      clear hj
      go_wp2_with fail
      go_ret2
      rw [HY.out.1, HY.out.2]
      exact O4.out.ret (by omega) H4.out.bel

end Go.Proofs.Ytambgommeannnaa
