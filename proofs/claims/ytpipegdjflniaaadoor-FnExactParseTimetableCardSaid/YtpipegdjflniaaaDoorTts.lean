/- Trips: the reference's words. -/
import Derived.Test.YtpipegdjflniaaaDoorTta
namespace Go.Proofs.YtpipegdjflniaaaDoor
open Go.ChangeShapes Go.WideShapes Go.ChangeAt Go.RowKit Go.PlainAid
set_option linter.unusedVariables false
set_option linter.unusedSimpArgs false

/-- A trip's line. -/
def lnI (x : TTD) (i : Nat) : LineD := nthL x.net.lines (nth3 x.trips i).b.toNat
/-- When a trip is at a place. -/
def atI (x : TTD) (i k : Nat) : Int := (nth3 x.trips i).c + sumI (lnI x i).runs k
theorem endI_at {x : TTD} {i : Nat} (h : (lnI x i).runs.length + 1 = (lnI x i).stops.length) : atI x i ((lnI x i).stops.length - 1) = endI x (nth3 x.trips i) := by
  unfold atI endI lnI at *
  rw [← h]
  rfl
/-- What is known of the i-th trip where its line is looked at. -/
structure Ti (x : TTD) (i : Nat) : Prop where
  lt : i < x.trips.length
  b0 : 0 ≤ (nth3 x.trips i).b
  b1 : (nth3 x.trips i).b < x.net.lines.length
  c0 : 0 ≤ (nth3 x.trips i).c
  c1 : (nth3 x.trips i).c ≤ 1799
  net : netB x.net = true
theorem Ti.hd {x : TTD} {i : Nat} (h : Ti x i) : LineHd (lnI x i) ∧ Runs60 (lnI x i).runs := netB_runs h.net (by have := h.b0; have := h.b1; omega)

theorem l2Run0_any (x : LineD) (A R : Option Addr) (ca cr b : Nat) (w : World) (hR : IntsIn w (Zone.below w.heap.size) R x.runs) (hb : b ≤ x.runs.length) (ok : Runs60 x.runs) (hr : x.runs.length ≤ 1048576) :
    Calls Tryd.prog 75 #[.agg #[.string x.name, .slice A x.stops.length ca, .slice R x.runs.length cr], .int .i64 0, .int .i64 b] w fun e w' => e = .returned (.int .i64 (sumI x.runs b)) ∧ Below w.heap.size w w' :=
  (l2Run_any x A R ca cr 0 b w hR (Nat.zero_le _) hb ok hr).mono fun e w' ⟨h1, h2⟩ => ⟨by rw [h1]; simp [sumI], h2⟩

/-- A line's value in some memory, behind a call. -/
def RetLine (y : LineD) (w : World) (e : Ending) (w' : World) : Prop :=
  ∃ S cs R cr, e = .returned (.agg #[.string y.name, .slice S y.stops.length cs, .slice R y.runs.length cr]) ∧ IntsIn w' (Zone.below w'.heap.size) S y.stops ∧ IntsIn w' (Zone.below w'.heap.size) R y.runs ∧ CapOk y.stops.length cs ∧ CapOk y.runs.length cr ∧ Below w.heap.size w w'

set_option maxRecDepth 100000 in
set_option maxHeartbeats 2000000 in
theorem l5Line_any (x : TTD) (A L T : Option Addr) (ca cl ct : Nat) (i : Nat) (w : World) (hA : StrsIn w (Zone.below w.heap.size) A x.net.stops) (hL : LinesIn w (Zone.below w.heap.size) L x.net.lines) (hT : I3sIn w (Zone.below w.heap.size) T x.trips) (hi : Ti x i) (hn : x.trips.length ≤ 1048576) (hm : x.net.lines.length ≤ 1048576) :
    Calls Tryd.prog 51 #[.agg #[.slice A x.net.stops.length ca, .slice L x.net.lines.length cl, .slice T x.trips.length ct], .int .i64 i] w (RetLine (lnI x i) w) := by
  obtain ⟨k, hk⟩ : ∃ k : Nat, (nth3 x.trips i).b = k := ⟨(nth3 x.trips i).b.toNat, by have := hi.b0; omega⟩
  have hkl : k < x.net.lines.length := by have := hi.b1; omega
  have hil := hi.lt
  have hln : lnI x i = nthL x.net.lines k := by unfold lnI; rw [hk, Int.toNat_natCast]
  rw [hln]
  obtain ⟨b, o, rfl, hbl, S, cs, R, cr, hc0, hc1, hc2, hi1, hi2, hcs, hcr⟩ := LinesIn.lineC hL hkl
  obtain ⟨b2, o2, rfl, hbl2, hd0, hd1, hd2⟩ := I3sIn.at hT hil
  rw [hk] at hd1
  have HI1 := Lib.hid hi1
  have HI2 := Lib.hid hi2
  have HCP := Lib.hid (And.intro hcs hcr)
  have hik : (i : Int) < x.trips.length := by omega
  have hkk : (k : Int) < x.net.lines.length := by omega
  have hlb : b < w.heap.size := hbl
  have hlb2 : b2 < w.heap.size := hbl2
  have hb0 : Below w.heap.size w ((w.alloc (.cells #[.slice A x.net.stops.length ca, .slice (some ⟨b, o, none⟩) x.net.lines.length cl, .slice (some ⟨b2, o2, none⟩) x.trips.length ct] 33)).alloc (.cells #[.string ⟨#[]⟩, .slice none 0 0, .slice none 0 0] 47)) := by go_grown
  have HB0 := Lib.hid hb0
  have e0 : ((w.alloc (.cells #[.slice A x.net.stops.length ca, .slice (some ⟨b, o, none⟩) x.net.lines.length cl, .slice (some ⟨b2, o2, none⟩) x.trips.length ct] 33)).alloc (.cells #[.string ⟨#[]⟩, .slice none 0 0, .slice none 0 0] 47)).cell? ⟨w.heap.size, 0, none⟩ = some (.slice A x.net.stops.length ca) := by go_simp
  have e1 : ((w.alloc (.cells #[.slice A x.net.stops.length ca, .slice (some ⟨b, o, none⟩) x.net.lines.length cl, .slice (some ⟨b2, o2, none⟩) x.trips.length ct] 33)).alloc (.cells #[.string ⟨#[]⟩, .slice none 0 0, .slice none 0 0] 47)).cell? ⟨w.heap.size, 1, none⟩ = some (.slice (some ⟨b, o, none⟩) x.net.lines.length cl) := by go_simp
  have e2 : ((w.alloc (.cells #[.slice A x.net.stops.length ca, .slice (some ⟨b, o, none⟩) x.net.lines.length cl, .slice (some ⟨b2, o2, none⟩) x.trips.length ct] 33)).alloc (.cells #[.string ⟨#[]⟩, .slice none 0 0, .slice none 0 0] 47)).cell? ⟨w.heap.size, 2, none⟩ = some (.slice (some ⟨b2, o2, none⟩) x.trips.length ct) := by go_simp
  have f0 : ((w.alloc (.cells #[.slice A x.net.stops.length ca, .slice (some ⟨b, o, none⟩) x.net.lines.length cl, .slice (some ⟨b2, o2, none⟩) x.trips.length ct] 33)).alloc (.cells #[.string ⟨#[]⟩, .slice none 0 0, .slice none 0 0] 47)).cell? ⟨w.heap.size + 1, 0, none⟩ = some (.string ⟨#[]⟩) := by go_simp
  have f1 : ((w.alloc (.cells #[.slice A x.net.stops.length ca, .slice (some ⟨b, o, none⟩) x.net.lines.length cl, .slice (some ⟨b2, o2, none⟩) x.trips.length ct] 33)).alloc (.cells #[.string ⟨#[]⟩, .slice none 0 0, .slice none 0 0] 47)).cell? ⟨w.heap.size + 1, 1, none⟩ = some (.slice none 0 0) := by go_simp
  have f2 : ((w.alloc (.cells #[.slice A x.net.stops.length ca, .slice (some ⟨b, o, none⟩) x.net.lines.length cl, .slice (some ⟨b2, o2, none⟩) x.trips.length ct] 33)).alloc (.cells #[.string ⟨#[]⟩, .slice none 0 0, .slice none 0 0] 47)).cell? ⟨w.heap.size + 1, 2, none⟩ = some (.slice none 0 0) := by go_simp
  have fz : ∀ j, ((w.alloc (.cells #[.slice A x.net.stops.length ca, .slice (some ⟨b, o, none⟩) x.net.lines.length cl, .slice (some ⟨b2, o2, none⟩) x.trips.length ct] 33)).alloc (.cells #[.string ⟨#[]⟩, .slice none 0 0, .slice none 0 0] 47)).frozen? ⟨w.heap.size + 1, j, none⟩ = false := fun j => by go_simp
  have l0 := (hb0.cell (p := ⟨b, o + k * 3, none⟩) hlb).trans hc0
  have l1 := (hb0.cell (p := ⟨b, o + k * 3 + 1, none⟩) hlb).trans hc1
  have l2 := (hb0.cell (p := ⟨b, o + k * 3 + 2, none⟩) hlb).trans hc2
  have m1 := (hb0.cell (p := ⟨b2, o2 + i * 3 + 1, none⟩) hlb2).trans hd1
  have hzz : w.heap.size + 1 < ((w.alloc (.cells #[.slice A x.net.stops.length ca, .slice (some ⟨b, o, none⟩) x.net.lines.length cl, .slice (some ⟨b2, o2, none⟩) x.trips.length ct] 33)).alloc (.cells #[.string ⟨#[]⟩, .slice none 0 0, .slice none 0 0] 47)).heap.size := by simp
  clear hA hL hT hi hk hln hi1 hi2 hcs hcr hb0 hc0 hc1 hc2 hd0 hd1 hd2
  go_enter Tryd.func51, Tryd.ntmps51
  go_wp2_with fail
  generalize ((w.alloc (.cells #[.slice A x.net.stops.length ca, .slice (some ⟨b, o, none⟩) x.net.lines.length cl, .slice (some ⟨b2, o2, none⟩) x.trips.length ct] 33)).alloc (.cells #[.string ⟨#[]⟩, .slice none 0 0, .slice none 0 0] 47)) = w0 at *
  go_still_tail 11, (by kernel_rfl)
  go_wp2_with fail
  refine bodyPost_ret (v := .agg #[.string (nthL x.net.lines k).name, .slice S (nthL x.net.lines k).stops.length cs, .slice R (nthL x.net.lines k).runs.length cr]) (by simp [results, Tryd.results51, go_sem, f0, f1, f2]) rfl ?_
  have hb : Below w.heap.size w ((((w0.drew).setCell ⟨w.heap.size + 1, 0, none⟩ (.string (nthL x.net.lines k).name)).setCell ⟨w.heap.size + 1, 1, none⟩ (.slice S (nthL x.net.lines k).stops.length cs)).setCell ⟨w.heap.size + 1, 2, none⟩ (.slice R (nthL x.net.lines k).runs.length cr)) :=
    (((HB0.out.drew).setCell (by simp) _).setCell (by simp) _).setCell (by simp) _
  exact ⟨S, cs, R, cr, rfl, HI1.out.call hb, HI2.out.call hb, HCP.out.1, HCP.out.2, hb⟩

set_option maxRecDepth 100000 in
theorem l5Stops_any (x : TTD) (A L T : Option Addr) (ca cl ct : Nat) (i : Nat) (w : World) (hA : StrsIn w (Zone.below w.heap.size) A x.net.stops) (hL : LinesIn w (Zone.below w.heap.size) L x.net.lines) (hT : I3sIn w (Zone.below w.heap.size) T x.trips) (hi : Ti x i) (hn : x.trips.length ≤ 1048576) (hm : x.net.lines.length ≤ 1048576) :
    Calls Tryd.prog 64 #[.agg #[.slice A x.net.stops.length ca, .slice L x.net.lines.length cl, .slice T x.trips.length ct], .int .i64 i] w fun e w' => ∃ S cs, e = .returned (.slice S (lnI x i).stops.length cs) ∧ IntsIn w' (Zone.below w'.heap.size) S (lnI x i).stops ∧ Below w.heap.size w w' := by
  have H0 : Hid (TtBox w (w.alloc (.cells #[.slice A x.net.stops.length ca, .slice L x.net.lines.length cl, .slice T x.trips.length ct] 33)) w.heap.size x A ca L cl T ct) := Lib.hid (TtBox.box hA hL hT)
  clear hA hL hT
  go_enter Tryd.func64, Tryd.ntmps64
  go_wp2_with fail
  refine (l5Line_any x _ _ _ _ _ _ i _ H0.out.stops H0.out.lines H0.out.trips hi hn hm).mono ?_
  rintro e w1 ⟨S, cs, R, cr, rfl, h1, _, _, _, hb1⟩
  have H1 := Lib.hid (H0.out.call hb1)
  have HI := Lib.hid h1
  have hfd : ∀ w', (Instr.field 47 (.agg #[.string (lnI x i).name, .slice S (lnI x i).stops.length cs, .slice R (lnI x i).runs.length cr]) 1).run Tryd.prog w' = .ok (.slice S (lnI x i).stops.length cs) w' := fun _ => by kernel_rfl
  clear h1 hb1
  go_wp2_with fail
  go_ret
  exact ⟨S, cs, rfl, HI.out, H1.out.bel⟩

set_option maxRecDepth 100000 in
set_option maxHeartbeats 2000000 in
theorem l5At_any (x : TTD) (A L T : Option Addr) (ca cl ct : Nat) (i k : Nat) (j : Int) (w : World) (hA : StrsIn w (Zone.below w.heap.size) A x.net.stops) (hL : LinesIn w (Zone.below w.heap.size) L x.net.lines) (hT : I3sIn w (Zone.below w.heap.size) T x.trips) (hi : Ti x i) (hn : x.trips.length ≤ 1048576) (hm : x.net.lines.length ≤ 1048576) (hj : j = k) (hk : k ≤ (lnI x i).runs.length) :
    Calls Tryd.prog 63 #[.agg #[.slice A x.net.stops.length ca, .slice L x.net.lines.length cl, .slice T x.trips.length ct], .int .i64 i, .int .i64 j] w fun e w' => e = .returned (.int .i64 (atI x i k)) ∧ Below w.heap.size w w' := by
  subst hj
  have H0 : Hid (TtBox w (w.alloc (.cells #[.slice A x.net.stops.length ca, .slice L x.net.lines.length cl, .slice T x.trips.length ct] 33)) w.heap.size x A ca L cl T ct) := Lib.hid (TtBox.box hA hL hT)
  obtain ⟨hd, hr⟩ := hi.hd
  unfold LineHd at hd
  have HR := Lib.hid hr
  have hs := sumI_bd hr k hk
  have hs1 := hs.1
  have hs2 : sumI (lnI x i).runs k ≤ 300 := by omega
  have hrn : (lnI x i).runs.length ≤ 1048576 := by omega
  have hc0 := hi.c0
  have hc1 := hi.c1
  have hil := hi.lt
  have hik : (i : Int) < x.trips.length := by omega
  have HT := Lib.hid hi
  have hw : IntKind.i64.wrap ((nth3 x.trips i).c + sumI (lnI x i).runs k) = (nth3 x.trips i).c + sumI (lnI x i).runs k := IntWalk.i64_in _ (by omega)
  have HA : Hid (atI x i k = (nth3 x.trips i).c + sumI (lnI x i).runs k) := Lib.hid rfl
  clear hA hL hT hr hs hd hi
  go_enter Tryd.func63, Tryd.ntmps63
  go_wp2_with fail
  generalize (w.alloc (.cells #[.slice A x.net.stops.length ca, .slice L x.net.lines.length cl, .slice T x.trips.length ct] 33)) = w0 at *
  obtain ⟨b2, o2, rfl, hbl2, hd0, hd1, hd2⟩ := I3sIn.at H0.out.trips hil
  have HD := Lib.hid hd2
  have hC : ∀ w', Below w0.heap.size w0 w' → Tt3 w' w.heap.size x A ca L cl (some ⟨b2, o2, none⟩) ct := fun w' h => (H0.out.call h).cells
  have hE : ∀ w', Below w0.heap.size w0 w' → w'.cell? ⟨b2, o2 + i * 3 + 2, none⟩ = some (.int .i64 (nth3 x.trips i).c) := fun w' h => (h.cell (p := ⟨b2, _, none⟩) hbl2).trans HD.out
  unfold Tt3 at hC
  clear hd0 hd1 hd2
  go_region_held3 (fun w' => Below w0.heap.size w0 w') (repeat' first | assumption | exact Nat.le_refl _ | exact Below.refl _ _ | (refine bel_drew ?_) | (refine bel_alloc ?_ _) | (refine bel_set ?_ ?_ _))
    (first
      | (go_at_call 51; refine (l5Line_any x _ _ _ _ _ _ i _ ((H0.out.call ‹Below w0.heap.size w0 _›).stops) ((H0.out.call ‹Below w0.heap.size w0 _›).lines) ((H0.out.call ‹Below w0.heap.size w0 _›).trips) HT.out hn hm).mono ?_; rintro e w5 ⟨S, cs, R, cr, rfl, _, h2, _, _, hb5⟩; have hB5 := bel_call ‹Below w0.heap.size w0 _› hb5; have HI := Lib.hid h2; clear hb5 h2)
      | (go_at_call 75; refine (l2Run0_any (lnI x i) _ _ _ _ k _ HI.out hk HR.out hrn).mono ?_; rintro e w6 ⟨rfl, hb6⟩; have hB6 := bel_call ‹Below w0.heap.size w0 w5› hb6; clear hb6))
  all_goals
    have H6 := Lib.hid (H0.out.call hB6)
    clear hC hE hB6 hw
    go_wp2_with fail
    go_ret
    exact ⟨retI HA.out.symm, H6.out.bel⟩

set_option maxRecDepth 100000 in
set_option maxHeartbeats 2000000 in
theorem l5End_any (x : TTD) (A L T : Option Addr) (ca cl ct : Nat) (i : Nat) (w : World) (hA : StrsIn w (Zone.below w.heap.size) A x.net.stops) (hL : LinesIn w (Zone.below w.heap.size) L x.net.lines) (hT : I3sIn w (Zone.below w.heap.size) T x.trips) (hi : Ti x i) (hn : x.trips.length ≤ 1048576) (hm : x.net.lines.length ≤ 1048576) :
    Calls Tryd.prog 49 #[.agg #[.slice A x.net.stops.length ca, .slice L x.net.lines.length cl, .slice T x.trips.length ct], .int .i64 i] w fun e w' => e = .returned (.int .i64 (endI x (nth3 x.trips i))) ∧ Below w.heap.size w w' := by
  have H0 : Hid (TtBox w (w.alloc (.cells #[.slice A x.net.stops.length ca, .slice L x.net.lines.length cl, .slice T x.trips.length ct] 33)) w.heap.size x A ca L cl T ct) := Lib.hid (TtBox.box hA hL hT)
  obtain ⟨hd, hr⟩ := hi.hd
  unfold LineHd at hd
  have HT := Lib.hid hi
  have HE := Lib.hid (endI_at (x := x) (i := i) (by omega))
  have hj : IntKind.i64.wrap (((lnI x i).stops.length : Int) - 1) = (((lnI x i).stops.length - 1 : Nat) : Int) := by rw [IntWalk.i64_in _ (by omega)]; omega
  have hk : (lnI x i).stops.length - 1 ≤ (lnI x i).runs.length := by omega
  clear hA hL hT hr hd hi
  go_enter Tryd.func49, Tryd.ntmps49
  go_wp2_with fail
  generalize (w.alloc (.cells #[.slice A x.net.stops.length ca, .slice L x.net.lines.length cl, .slice T x.trips.length ct] 33)) = w0 at *
  have hC : ∀ w', Below w0.heap.size w0 w' → Tt3 w' w.heap.size x A ca L cl T ct := fun w' h => (H0.out.call h).cells
  unfold Tt3 at hC
  go_region_held3 (fun w' => Below w0.heap.size w0 w') (repeat' first | assumption | exact Nat.le_refl _ | exact Below.refl _ _ | (refine bel_drew ?_) | (refine bel_alloc ?_ _) | (refine bel_set ?_ ?_ _))
    (first
      | (go_at_call 64; refine (l5Stops_any x _ _ _ _ _ _ i _ ((H0.out.call ‹Below w0.heap.size w0 _›).stops) ((H0.out.call ‹Below w0.heap.size w0 _›).lines) ((H0.out.call ‹Below w0.heap.size w0 _›).trips) HT.out hn hm).mono ?_; rintro e w5 ⟨S, cs, rfl, _, hb5⟩; have hB5 := bel_call ‹Below w0.heap.size w0 _› hb5; clear hb5)
      | (go_at_call 63; refine (l5At_any x _ _ _ _ _ _ i ((lnI x i).stops.length - 1) _ _ ((H0.out.call ‹Below w0.heap.size w0 _›).stops) ((H0.out.call ‹Below w0.heap.size w0 _›).lines) ((H0.out.call ‹Below w0.heap.size w0 _›).trips) HT.out hn hm (by first | exact hj | rfl | omega) hk).mono ?_; rintro e w6 ⟨rfl, hb6⟩; have hB6 := bel_call ‹Below w0.heap.size w0 w5› hb6; clear hb6))
  all_goals
    have H6 := Lib.hid (H0.out.call hB6)
    clear hC hB6 hj
    go_wp2_with fail
    go_ret
    exact ⟨retI HE.out, H6.out.bel⟩

end Go.Proofs.YtpipegdjflniaaaDoor
