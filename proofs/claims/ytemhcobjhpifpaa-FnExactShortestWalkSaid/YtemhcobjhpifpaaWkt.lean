/- WalkingTimes: contracts. -/
import Derived.Test.YtemhcobjhpifpaaFwb
import Derived.Test.YtemhcobjhpifpaaFwc
import Derived.Test.YtemhcobjhpifpaaWoL
import Derived.Test.YtemhcobjhpifpaaLnA
namespace Go.Proofs.Ytemhcobjhpifpaa
open Go.ChangeShapes Go.WideShapes Go.ChangeAt Go.RowKit Go.PlainAid
set_option linter.unusedVariables false

/-- A valid network and walks of it. -/
def wvB (x : NetD) (xs : List I3) : Bool := netB x && walksB x.stops.length xs
theorem wvB_ok {x : NetD} {xs : List I3} (h : wvB x xs = true) : netB x = true ∧ WalksOk x.stops.length xs := by
  unfold wvB at h
  simp at h
  exact ⟨h.1, walksB_ok h.2⟩
theorem implWv_any (x : NetD) (A L V : Option Addr) (ca cl cv : Nat) (xs : List I3) (w : World) (hA : StrsIn w (Zone.below w.heap.size) A x.stops) (hL : LinesIn w (Zone.below w.heap.size) L x.lines) (hV : I3sIn w (Zone.below w.heap.size) V xs) (hx : Fits x) (hv : xs.length ≤ 1048576) :
    Calls Try.prog 25 #[.agg #[.slice A x.stops.length ca, .slice L x.lines.length cl], .slice V xs.length cv] w fun e w' => e = .returned (.bool (wvB x xs)) ∧ Below w.heap.size w w' :=
  implIsValidWalks_any x A L V ca cl cv xs w hA hL hV hx hv
theorem specWv_any (x : NetD) (A L V : Option Addr) (ca cl cv : Nat) (xs : List I3) (w : World) (hA : StrsIn w (Zone.below w.heap.size) A x.stops) (hL : LinesIn w (Zone.below w.heap.size) L x.lines) (hV : I3sIn w (Zone.below w.heap.size) V xs) (hx : Fits x) (hv : xs.length ≤ 1048576) :
    Calls Try.prog 36 #[.agg #[.slice A x.stops.length ca, .slice L x.lines.length cl], .slice V xs.length cv] w fun e w' => e = .returned (.bool (wvB x xs)) ∧ Below w.heap.size w w' :=
  l7Good_any x A L V ca cl cv xs w hA hL hV hx hv
theorem retL {A : Option Addr} {n m c : Nat} {b : Bool} (h : n = m) : Ending.returned (.tuple #[.slice A n c, .bool b]) = .returned (.tuple #[.slice A m c, .bool b]) := by rw [h]

/-- What WalkingTimes returns. -/
def wtB (x : NetD) (xs : List I3) (s : Int) : Bool := wvB x xs && inB s 0 (x.stops.length - 1)
def wtI (x : NetD) (xs : List I3) (s : Int) : List Int := if wtB x xs s = true then listOf x.stops.length (fw xs x.stops.length s.toNat) else []
theorem wtB_no {x : NetD} {xs : List I3} {s : Int} (h : wvB x xs = false ∨ inB s 0 (x.stops.length - 1) = false) : wtB x xs s = false := by
  unfold wtB
  rcases h with h | h <;> simp [h]
theorem wtB_yes {x : NetD} {xs : List I3} {s : Int} (h : wvB x xs = true) (h' : inB s 0 (x.stops.length - 1) = true) : wtB x xs s = true := by
  unfold wtB
  simp [h, h']
theorem wtI_no {x : NetD} {xs : List I3} {s : Int} (h : wtB x xs s = false) : wtI x xs s = [] := by unfold wtI; rw [h]; rfl
theorem wtI_yes {x : NetD} {xs : List I3} {s : Int} (h : wtB x xs s = true) : wtI x xs s = listOf x.stops.length (fw xs x.stops.length s.toNat) := by unfold wtI; rw [h]; rfl
theorem wtI_len (x : NetD) (xs : List I3) (s : Int) : (wtI x xs s).length ≤ x.stops.length := by
  unfold wtI
  split
  · rw [listOf_length]; exact Nat.le_refl _
  · simp

set_option maxRecDepth 100000 in
set_option maxHeartbeats 2000000 in
theorem specWalking_any (x : NetD) (A L V : Option Addr) (ca cl cv : Nat) (xs : List I3) (s : Int) (w : World) (hA : StrsIn w (Zone.below w.heap.size) A x.stops) (hL : LinesIn w (Zone.below w.heap.size) L x.lines) (hV : I3sIn w (Zone.below w.heap.size) V xs) (hx : Fits x) (hv : xs.length ≤ 1048576) :
    Calls Try.prog 19 #[.agg #[.slice A x.stops.length ca, .slice L x.lines.length cl], .slice V xs.length cv, .int .i64 s] w (RetInts (wtI x xs s) (wtB x xs s) w) := by
  have H0 : Hid (NetBox w (w.alloc (.cells #[.slice A x.stops.length ca, .slice L x.lines.length cl] 34)) w.heap.size x A ca L cl) := Lib.hid (NetBox.box hA hL)
  have HV0 := Lib.hid (hV.call H0.out.bel)
  have hn := hx.stops
  have hm := hx.lines
  clear hA hL hV
  cases g0 : wvB x xs
  · have HG := Lib.hid (wtB_no (s := s) (.inl g0))
    have H := Lib.hid (wtI_no HG.out)
    go_enter Try.func19, Try.ntmps19
    go_wp2_with fail
    refine (specWv_any x _ _ _ _ _ _ xs _ H0.out.stops H0.out.lines HV0.out hx hv).mono ?_
    rintro e w1 ⟨rfl, hb1⟩
    have H1 := Lib.hid (H0.out.call hb1)
    have HV1 := Lib.hid (HV0.out.call hb1)
    have hz1 := hb1.size
    clear hb1
    (try clear c0 c1)
    obtain ⟨c0, c1⟩ := H1.out.cells
    have HB9 : Hid (Below w.heap.size w (w1.alloc (.cells #[] 3))) := Lib.hid (H1.out.bel.alloc (by have := H1.out.bel.size; omega) _)
    go_wp2_with fail
    go_ret2
    rw [HG.out]
    exact ⟨some ⟨w1.heap.size, 0, none⟩, 0, retL (by rw [H.out]; rfl), by rw [H.out]; exact fun h => absurd h (by simp), HB9.out⟩
  cases g1 : inB s 0 (x.stops.length - 1)
  · have HG := Lib.hid (wtB_no (xs := xs) (.inr g1))
    have H := Lib.hid (wtI_no HG.out)
    go_enter Try.func19, Try.ntmps19
    go_wp2_with fail
    refine (specWv_any x _ _ _ _ _ _ xs _ H0.out.stops H0.out.lines HV0.out hx hv).mono ?_
    rintro e w1 ⟨rfl, hb1⟩
    have H1 := Lib.hid (H0.out.call hb1)
    have HV1 := Lib.hid (HV0.out.call hb1)
    have hz1 := hb1.size
    clear hb1
    (try clear c0 c1)
    obtain ⟨c0, c1⟩ := H1.out.cells
    have HB9 : Hid (Below w.heap.size w (w1.alloc (.cells #[] 3))) := Lib.hid (H1.out.bel.alloc (by have := H1.out.bel.size; omega) _)
    go_wp2_with (go_at_call 20; refine (l1In_any _ _ _ _).mono ?_; rintro e w6 ⟨rfl, rfl⟩)
    go_ret2
    rw [HG.out]
    exact ⟨some ⟨w1.heap.size, 0, none⟩, 0, retL (by rw [H.out]; rfl), by rw [H.out]; exact fun h => absurd h (by simp), HB9.out⟩
  have HG := Lib.hid (wtB_yes g0 g1)
  have H := Lib.hid (wtI_yes HG.out)
  obtain ⟨hnet, hwk⟩ := wvB_ok g0
  have HN := Lib.hid hnet
  have HWK := Lib.hid hwk.wks
  have h28 := inB_iff.1 (netB_ok hnet).stops
  have h2 : 2 ≤ x.stops.length := by omega
  have h8 : x.stops.length ≤ 8 := by omega
  have h0 : 0 < x.stops.length := by omega
  clear hnet hwk h28
  obtain ⟨j1, j2⟩ := inB_iff.1 g1
  obtain ⟨a, rfl⟩ : ∃ a : Nat, s = a := ⟨s.toNat, by omega⟩
  have ha : a < x.stops.length := by omega
  have hai : (a : Int) < (x.stops.length : Int) := by omega
  have HE : Hid (wtI x xs a = listOf x.stops.length (fw xs x.stops.length a)) := Lib.hid (by rw [H.out, Int.toNat_natCast])
  go_enter Try.func19, Try.ntmps19
  go_wp2_with fail
  refine (specWv_any x _ _ _ _ _ _ xs _ H0.out.stops H0.out.lines HV0.out hx hv).mono ?_
  rintro e w1 ⟨rfl, hb1⟩
  have H1 := Lib.hid (H0.out.call hb1)
  have HV1 := Lib.hid (HV0.out.call hb1)
  have hz1 := hb1.size
  clear hb1
  (try clear c0 c1)
  obtain ⟨c0, c1⟩ := H1.out.cells
  go_wp2_with (go_at_call 20; refine (l1In_any _ _ _ _).mono ?_; rintro e w6 ⟨rfl, rfl⟩)
  refine (l7Times_any x.stops.length _ _ a xs _ HV1.out h8 hv HWK.out ha).mono ?_
  rintro e w3 ⟨G, c, rfl, ha3, hg3, hc3, hc4, hb3⟩
  have H3 := Lib.hid (H1.out.call hb3)
  have HM := Lib.hid ha3
  have hbz := H1.out.bel.size
  clear hb3 ha3 c0 c1
  go_wp2_with fail
  go_ret2
  rw [HG.out]
  exact ⟨some ⟨G, 0, none⟩, c, retL (by rw [HE.out, listOf_length]), by rw [HE.out]; exact HM.out.ints (listOf_length _ _) (fun j hj => (nth_listOf hj).symm) (by omega) HM.out.lt, H3.out.bel⟩

end Go.Proofs.Ytemhcobjhpifpaa
