/- Trips found by their ids; a timetable's marks. -/
import Derived.Test.YtambgommeannnaaTts
import Derived.Test.YtambgommeannnaaLnA
namespace Go.Proofs.Ytambgommeannnaa
open Go.ChangeShapes Go.WideShapes Go.ChangeAt Go.RowKit Go.PlainAid
set_option linter.unusedVariables false

/-- Does the k-th trip bear an id? -/
def idAt (xs : List I3) (id : Int) (k : Nat) : Bool := (nth3 xs k).a == id
/-- The place of the trip with an id, or -1. -/
def idI (xs : List I3) (id : Int) : Int := ixN xs.length (idAt xs id)
theorem idI_bd (xs : List I3) (id : Int) : -1 ≤ idI xs id ∧ idI xs id < xs.length := by
  unfold idI
  rcases ixN_cases xs.length (idAt xs id) with ⟨k, hk, _, _, e⟩ | ⟨_, e⟩ <;> rw [e] <;> omega

theorem tripIndexF_any (t : I3) (id : Int) (g : Nat) (w : World) (h : w.cell? ⟨g, 0, none⟩ = some (.int .i64 id)) (hg : g < w.heap.size) :
    Calls Try.prog 172 #[.agg #[.int .i64 t.a, .int .i64 t.b, .int .i64 t.c], .pointer (some ⟨g, 0, none⟩)] w fun e w' => e = .returned (.bool (t.a == id)) ∧ Below w.heap.size w w' := by
  go_enter Try.func172, Try.ntmps172
  go_wp2
  go_ret
  exact ⟨rfl, by go_grown⟩

set_option maxHeartbeats 1000000 in
theorem indexTrip_any (A : Option Addr) (c : Nat) (xs : List I3) (id : Int) (g : Nat) (w : World) (h : I3sIn w (Zone.below w.heap.size) A xs) (hn : xs.length ≤ 1048576) (hc : w.cell? ⟨g, 0, none⟩ = some (.int .i64 id)) (hg : g < w.heap.size) :
    Calls Try.prog 171 #[.slice A xs.length c, .func (.func 172) #[] #[.pointer (some ⟨g, 0, none⟩)]] w fun e w' => e = .returned (.int .i64 (idI xs id)) ∧ Below w.heap.size w w' := by
  have HX := Lib.hid h
  have HC := Lib.hid hc
  clear h hc
  go_enter Try.func171, Try.ntmps171
  go_wp2
  go_loopw [8] (fun i wr => ∃ k : Nat, k ≤ xs.length ∧ i = .int .i64 k ∧ (∀ j, j < k → idAt xs id j = false) ∧ Below w.heap.size w wr) (fun i _ => xs.length - (intOf i).toNat)
  case atStart => exact ⟨0, Nat.zero_le _, rfl, fun j hj => by omega, Below.refl _ _⟩
  case round =>
    obtain ⟨k, hk, rfl, ha, hb⟩ := hrel
    have HA := Lib.hid ha
    have HB := Lib.hid hb
    clear ha
    by_cases hlt : k < xs.length
    · obtain ⟨b, o, rfl, hbl, hc0, hc1, hc2⟩ := I3sIn.at (HX.out.at_below hb) hlt
      have hik : (k : Int) < (xs.length : Int) := by omega
      have hcg : wr.cell? ⟨g, 0, none⟩ = some (.int .i64 id) := (hb.cell (p := ⟨g, 0, none⟩) hg).trans HC.out
      have HCg := Lib.hid hcg
      have hgr : g < wr.heap.size := Nat.lt_of_lt_of_le hg hb.size
      clear hb hcg
      cases he : idAt xs id k
      · have hE := he
        unfold idAt at hE
        go_wp2_with fail
        refine (tripIndexF_any (nth3 xs k) id g _ HCg.out hgr).mono ?_
        rintro e w1 ⟨rfl, hb1⟩
        have HB1 := Lib.hid (bel_of HB.out HB.out.size hb1)
        clear hb1
        go_wp2_with fail
        go_roundw
        case rel => exact ⟨k + 1, by omega, by go_num, fun j hj => by (by_cases e : j = k; (rw [e]; exact he); exact HA.out j (by omega)), HB1.out⟩
        case measure => simp [intOf]; omega
      · have HF := Lib.hid (show idI xs id = k from ixN_hit hlt he HA.out)
        have hE := he
        unfold idAt at hE
        go_wp2_with fail
        refine (tripIndexF_any (nth3 xs k) id g _ HCg.out hgr).mono ?_
        rintro e w1 ⟨rfl, hb1⟩
        have HB1 := Lib.hid (bel_of HB.out HB.out.size hb1)
        clear hb1
        go_wp2_with fail
        go_ret
        exact ⟨retI HF.out.symm, HB1.out⟩
    · obtain rfl : k = xs.length := by omega
      have HF := Lib.hid (show idI xs id = -1 from ixN_none HA.out)
      clear hb
      go_wp2
      go_ret
      exact ⟨retI HF.out.symm, HB.out⟩

theorem tripIndex_any (x : TTD) (A L T : Option Addr) (ca cl ct : Nat) (id : Int) (w : World) (hT : I3sIn w (Zone.below w.heap.size) T x.trips) (hn : x.trips.length ≤ 1048576) :
    Calls Try.prog 132 #[.agg #[.slice A x.net.stops.length ca, .slice L x.net.lines.length cl, .slice T x.trips.length ct], .int .i64 id] w fun e w' => e = .returned (.int .i64 (idI x.trips id)) ∧ Below w.heap.size w w' := by
  have HT := Lib.hid hT
  clear hT
  go_enter Try.func132, Try.ntmps132
  go_wp2_with fail
  refine (indexTrip_any _ _ x.trips id (w.heap.size + 1) _ (HT.out.call (by go_grown)) hn (by go_simp) (by simp)).mono ?_
  rintro e w1 ⟨rfl, hb1⟩
  have HB1 : Hid (Below w.heap.size w w1) := bel_of (by go_grown) (by simp; omega) hb1
  clear hb1
  go_wp2_with fail
  go_ret
  exact ⟨rfl, HB1.out⟩

set_option maxHeartbeats 400000 in
theorem l5Find_any (x : TTD) (A L T : Option Addr) (ca cl ct : Nat) (id : Int) (w : World) (hT : I3sIn w (Zone.below w.heap.size) T x.trips) (hn : x.trips.length ≤ 1048576) :
    Calls Try.prog 129 #[.agg #[.slice A x.net.stops.length ca, .slice L x.net.lines.length cl, .slice T x.trips.length ct], .int .i64 id] w fun e w' => e = .returned (.int .i64 (idI x.trips id)) ∧ Below w.heap.size w w' := by
  have hb0 : Below w.heap.size w (w.alloc (.cells #[.slice A x.net.stops.length ca, .slice L x.net.lines.length cl, .slice T x.trips.length ct] 49)) := by go_grown
  have HT := Lib.hid (hT.call hb0)
  have HB := Lib.hid hb0
  clear hT hb0
  go_enter Try.func129, Try.ntmps129
  go_wp2
  go_loopw [5] (fun i wr => ∃ k : Nat, k ≤ x.trips.length ∧ i = .int .i64 k ∧ (∀ j, j < k → idAt x.trips id j = false) ∧ wr = w.alloc (.cells #[.slice A x.net.stops.length ca, .slice L x.net.lines.length cl, .slice T x.trips.length ct] 49)) (fun i _ => x.trips.length - (intOf i).toNat)
  case atStart => exact ⟨0, Nat.zero_le _, rfl, fun j hj => by omega, rfl⟩
  case round =>
    obtain ⟨k, hk, rfl, ha, rfl⟩ := hrel
    have HA := Lib.hid ha
    clear ha
    by_cases hlt : k < x.trips.length
    · obtain ⟨b, o, rfl, hbl, hc0, hc1, hc2⟩ := I3sIn.at HT.out hlt
      have hik : (k : Int) < (x.trips.length : Int) := by omega
      cases he : idAt x.trips id k
      · have hE := he
        unfold idAt at hE
        go_wp2
        go_roundw
        case rel => exact ⟨k + 1, by omega, by go_num, fun j hj => by (by_cases e : j = k; (rw [e]; exact he); exact HA.out j (by omega)), trivial⟩
        case measure => simp [intOf]; omega
      · have HF := Lib.hid (show idI x.trips id = k from ixN_hit hlt he HA.out)
        have hE := he
        unfold idAt at hE
        go_wp2
        go_ret
        exact ⟨retI HF.out.symm, HB.out⟩
    · obtain rfl : k = x.trips.length := by omega
      have HF := Lib.hid (show idI x.trips id = -1 from ixN_none HA.out)
      go_wp2
      go_ret
      exact ⟨retI HF.out.symm, HB.out⟩

theorem fitsT_le {x : TTD} (h : szTT x ≤ 1048576) : FitsT x := by
  unfold szTT at h
  exact ⟨fits_le (by omega), by omega⟩
end Go.Proofs.Ytambgommeannnaa
