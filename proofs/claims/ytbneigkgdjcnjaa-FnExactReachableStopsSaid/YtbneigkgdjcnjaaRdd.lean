/- FewestLines: contracts. -/
import Derived.Test.YtbneigkgdjcnjaaRdc
namespace Go.Proofs.Ytbneigkgdjcnjaa
open Go.ChangeShapes Go.WideShapes Go.ChangeAt Go.RowKit Go.PlainAid
set_option linter.unusedVariables false

/-- What FewestLines looks at, and when. -/
def flB (x : NetD) (p q : Int) : Bool := stopB x p && inB q 0 (x.stops.length - 1)
def flI (x : NetD) (p q : Int) : Int := ridF x p.toNat x.stops.length q.toNat
theorem flB_no {x : NetD} {p q : Int} (h : netB x = false ∨ inB p 0 (x.stops.length - 1) = false ∨ inB q 0 (x.stops.length - 1) = false) : flB x p q = false := by
  unfold flB stopB
  rcases h with h | h | h <;> simp [h]
theorem flB_yes {x : NetD} {p q : Int} (h1 : netB x = true) (h2 : inB p 0 (x.stops.length - 1) = true) (h3 : inB q 0 (x.stops.length - 1) = true) : flB x p q = true := by
  unfold flB stopB
  simp [h1, h2, h3]
theorem stopB_parts {x : NetD} {s : Int} (h : stopB x s = true) : netB x = true ∧ inB s 0 (x.stops.length - 1) = true := by
  unfold stopB at h
  simpa using h
theorem numNoF {ok : Bool} {i : Int} (h : ok = false) : Hid (numI ok i = 0 ∧ numB ok i = false) := Lib.hid (num_no (.inl h))
/-- The stops that can be reached. -/
def reaB (x : NetD) (s : Int) (t : Nat) : Bool := decide (0 ≤ ridF x s.toNat x.stops.length t)
def reI (x : NetD) (s : Int) : List Int := if stopB x s = true then filt x.stops.length (reaB x s) else []
theorem reI_no {x : NetD} {s : Int} (h : stopB x s = false) : reI x s = [] := by unfold reI; rw [h]; rfl
theorem reI_yes {x : NetD} {s : Int} (h : stopB x s = true) : reI x s = filt x.stops.length (reaB x s) := by unfold reI; rw [h]; rfl
theorem reI_len (x : NetD) (s : Int) : (reI x s).length ≤ x.stops.length := by
  unfold reI
  split
  · exact filt_len _ _
  · simp

set_option maxRecDepth 100000 in
set_option maxHeartbeats 2000000 in
theorem implFewest_any (x : NetD) (A L : Option Addr) (ca cl : Nat) (p q : Int) (w : World) (hA : StrsIn w (Zone.below w.heap.size) A x.stops) (hL : LinesIn w (Zone.below w.heap.size) L x.lines) (hx : Fits x) :
    Calls Try.prog 25 #[.agg #[.slice A x.stops.length ca, .slice L x.lines.length cl], .int .i64 p, .int .i64 q] w (fun e w' => e = .returned (.tuple #[.int .i64 (numI (flB x p q) (flI x p q)), .bool (numB (flB x p q) (flI x p q))]) ∧ Below w.heap.size w w') := by
  have H0 : Hid (NetBox w (w.alloc (.cells #[.slice A x.stops.length ca, .slice L x.lines.length cl] 31)) w.heap.size x A ca L cl) := Lib.hid (NetBox.box hA hL)
  have hn := hx.stops
  have hm := hx.lines
  clear hA hL
  cases g0 : netB x
  · have H := numNoF (i := flI x p q) (flB_no (x := x) (p := p) (q := q) (.inl g0))
    go_enter Try.func25, Try.ntmps25
    go_wp2_with fail
    refine (isValidNetwork_any x _ _ _ _  _ H0.out.stops H0.out.lines hx).mono ?_
    rintro e w1 ⟨rfl, hb1⟩
    have H1 := Lib.hid (H0.out.call hb1)
    clear hb1
    (try clear c0 c1)
    obtain ⟨c0, c1⟩ := H1.out.cells
    go_wp2_with fail
    go_ret2
    exact ⟨retT H.out.1.symm H.out.2.symm, H1.out.bel⟩
  cases g1 : inB p 0 (x.stops.length - 1)
  · have H := numNoF (i := flI x p q) (flB_no (x := x) (p := p) (q := q) (.inr (.inl g1)))
    go_enter Try.func25, Try.ntmps25
    go_wp2_with fail
    refine (isValidNetwork_any x _ _ _ _  _ H0.out.stops H0.out.lines hx).mono ?_
    rintro e w1 ⟨rfl, hb1⟩
    have H1 := Lib.hid (H0.out.call hb1)
    clear hb1
    (try clear c0 c1)
    obtain ⟨c0, c1⟩ := H1.out.cells
    go_wp2_with fail
    refine (isStop_any x _ _ _ _ p _  hn).mono ?_
    rintro e w2 ⟨rfl, hb2⟩
    have H2 := Lib.hid (H1.out.call hb2)
    clear hb2
    (try clear c0 c1)
    obtain ⟨c0, c1⟩ := H2.out.cells
    go_wp2_with fail
    go_ret2
    exact ⟨retT H.out.1.symm H.out.2.symm, H2.out.bel⟩
  cases g2 : inB q 0 (x.stops.length - 1)
  · have H := numNoF (i := flI x p q) (flB_no (x := x) (p := p) (q := q) (.inr (.inr g2)))
    go_enter Try.func25, Try.ntmps25
    go_wp2_with fail
    refine (isValidNetwork_any x _ _ _ _  _ H0.out.stops H0.out.lines hx).mono ?_
    rintro e w1 ⟨rfl, hb1⟩
    have H1 := Lib.hid (H0.out.call hb1)
    clear hb1
    (try clear c0 c1)
    obtain ⟨c0, c1⟩ := H1.out.cells
    go_wp2_with fail
    refine (isStop_any x _ _ _ _ p _  hn).mono ?_
    rintro e w2 ⟨rfl, hb2⟩
    have H2 := Lib.hid (H1.out.call hb2)
    clear hb2
    (try clear c0 c1)
    obtain ⟨c0, c1⟩ := H2.out.cells
    go_wp2_with fail
    refine (isStop_any x _ _ _ _ q _  hn).mono ?_
    rintro e w3 ⟨rfl, hb3⟩
    have H3 := Lib.hid (H2.out.call hb3)
    clear hb3
    (try clear c0 c1)
    obtain ⟨c0, c1⟩ := H3.out.cells
    go_wp2_with fail
    go_ret2
    exact ⟨retT H.out.1.symm H.out.2.symm, H3.out.bel⟩
  have HK := Lib.hid (flB_yes g0 g1 g2)
  have HG := Lib.hid g0
  obtain ⟨j1, j2⟩ := inB_iff.1 g1
  obtain ⟨j3, j4⟩ := inB_iff.1 g2
  have h2 : 2 ≤ x.stops.length := by have := inB_iff.1 (netB_ok HG.out).stops; omega
  obtain ⟨a, rfl⟩ : ∃ a : Nat, p = a := ⟨p.toNat, by omega⟩
  obtain ⟨b, rfl⟩ : ∃ b : Nat, q = b := ⟨q.toNat, by omega⟩
  have ha : a < x.stops.length := by omega
  have hb : b < x.stops.length := by omega
  have hbi : (b : Int) < (x.stops.length : Int) := by omega
  have HR := Lib.hid (show flI x a b = ridF x a x.stops.length b by unfold flI; rw [Int.toNat_natCast, Int.toNat_natCast])
  go_enter Try.func25, Try.ntmps25
  go_wp2_with fail
  refine (isValidNetwork_any x _ _ _ _  _ H0.out.stops H0.out.lines hx).mono ?_
  rintro e w1 ⟨rfl, hb1⟩
  have H1 := Lib.hid (H0.out.call hb1)
  clear hb1
  (try clear c0 c1)
  obtain ⟨c0, c1⟩ := H1.out.cells
  go_wp2_with fail
  refine (isStop_any x _ _ _ _ _ _  hn).mono ?_
  rintro e w2 ⟨rfl, hb2⟩
  have H2 := Lib.hid (H1.out.call hb2)
  clear hb2
  (try clear c0 c1)
  obtain ⟨c0, c1⟩ := H2.out.cells
  go_wp2_with fail
  refine (isStop_any x _ _ _ _ _ _  hn).mono ?_
  rintro e w3 ⟨rfl, hb3⟩
  have H3 := Lib.hid (H2.out.call hb3)
  clear hb3
  (try clear c0 c1)
  obtain ⟨c0, c1⟩ := H3.out.cells
  go_wp2_with fail
  refine (rides_any x _ _ _ _ a _ H3.out.stops H3.out.lines hx HG.out ha).mono ?_
  rintro e w4 ⟨rfl, hr4, hb4⟩
  have H4 := Lib.hid (H3.out.call hb4)
  have d4 := hr4.cells b hb
  clear hb4 hr4
  (try clear c0 c1)
  obtain ⟨c0, c1⟩ := H4.out.cells
  go_wp2_with (go_at_call 66; refine (found_any _ _).mono ?_; rintro e w6 ⟨rfl, rfl⟩)
  go_ret2
  exact ⟨retT (by rw [HK.out, HR.out]) (by rw [HK.out, HR.out]), H4.out.bel⟩

set_option maxRecDepth 100000 in
set_option maxHeartbeats 2000000 in
theorem specFewest_any (x : NetD) (A L : Option Addr) (ca cl : Nat) (p q : Int) (w : World) (hA : StrsIn w (Zone.below w.heap.size) A x.stops) (hL : LinesIn w (Zone.below w.heap.size) L x.lines) (hx : Fits x) :
    Calls Try.prog 24 #[.agg #[.slice A x.stops.length ca, .slice L x.lines.length cl], .int .i64 p, .int .i64 q] w (fun e w' => e = .returned (.tuple #[.int .i64 (numI (flB x p q) (flI x p q)), .bool (numB (flB x p q) (flI x p q))]) ∧ Below w.heap.size w w') := by
  have H0 : Hid (NetBox w (w.alloc (.cells #[.slice A x.stops.length ca, .slice L x.lines.length cl] 31)) w.heap.size x A ca L cl) := Lib.hid (NetBox.box hA hL)
  have hn := hx.stops
  have hm := hx.lines
  clear hA hL
  cases g0 : stopB x p
  · have H := numNoF (i := flI x p q) (show flB x p q = false by unfold flB; rw [g0]; rfl)
    go_enter Try.func24, Try.ntmps24
    go_wp2_with fail
    refine (l2Stop_any x _ _ _ _ p _ H0.out.stops H0.out.lines hx).mono ?_
    rintro e w1 ⟨rfl, hb1⟩
    have H1 := Lib.hid (H0.out.call hb1)
    clear hb1
    (try clear c0 c1)
    obtain ⟨c0, c1⟩ := H1.out.cells
    go_wp2_with fail
    go_ret2
    exact ⟨retT H.out.1.symm H.out.2.symm, H1.out.bel⟩
  obtain ⟨hnet, hp0⟩ := stopB_parts g0
  cases g1 : stopB x q
  · have H := numNoF (i := flI x p q) (flB_no (x := x) (p := p) (q := q) (by unfold stopB at g1; rw [hnet] at g1; simp at g1; exact .inr (.inr g1)))
    go_enter Try.func24, Try.ntmps24
    go_wp2_with fail
    refine (l2Stop_any x _ _ _ _ p _ H0.out.stops H0.out.lines hx).mono ?_
    rintro e w1 ⟨rfl, hb1⟩
    have H1 := Lib.hid (H0.out.call hb1)
    clear hb1
    (try clear c0 c1)
    obtain ⟨c0, c1⟩ := H1.out.cells
    go_wp2_with fail
    refine (l2Stop_any x _ _ _ _ q _ H1.out.stops H1.out.lines hx).mono ?_
    rintro e w2 ⟨rfl, hb2⟩
    have H2 := Lib.hid (H1.out.call hb2)
    clear hb2
    (try clear c0 c1)
    obtain ⟨c0, c1⟩ := H2.out.cells
    go_wp2_with fail
    go_ret2
    exact ⟨retT H.out.1.symm H.out.2.symm, H2.out.bel⟩
  obtain ⟨_, hq0⟩ := stopB_parts g1
  have HK := Lib.hid (flB_yes hnet hp0 hq0)
  have HG := Lib.hid hnet
  obtain ⟨j1, j2⟩ := inB_iff.1 hp0
  obtain ⟨j3, j4⟩ := inB_iff.1 hq0
  have h2 : 2 ≤ x.stops.length := by have := inB_iff.1 (netB_ok HG.out).stops; omega
  obtain ⟨a, rfl⟩ : ∃ a : Nat, p = a := ⟨p.toNat, by omega⟩
  obtain ⟨b, rfl⟩ : ∃ b : Nat, q = b := ⟨q.toNat, by omega⟩
  have ha : a < x.stops.length := by omega
  have hb : b < x.stops.length := by omega
  have hbi : (b : Int) < (x.stops.length : Int) := by omega
  have HR := Lib.hid (show flI x a b = ridF x a x.stops.length b by unfold flI; rw [Int.toNat_natCast, Int.toNat_natCast])
  clear hnet hp0 hq0
  by_cases t : ridF x a x.stops.length b < 0
  · have H := Lib.hid (num_no (ok := flB x a b) (i := flI x a b) (.inr (by rw [HR.out]; exact t)))
    go_enter Try.func24, Try.ntmps24
    go_wp2_with fail
    refine (l2Stop_any x _ _ _ _ _ _ H0.out.stops H0.out.lines hx).mono ?_
    rintro e w1 ⟨rfl, hb1⟩
    have H1 := Lib.hid (H0.out.call hb1)
    clear hb1
    (try clear c0 c1)
    obtain ⟨c0, c1⟩ := H1.out.cells
    go_wp2_with fail
    refine (l2Stop_any x _ _ _ _ _ _ H1.out.stops H1.out.lines hx).mono ?_
    rintro e w2 ⟨rfl, hb2⟩
    have H2 := Lib.hid (H1.out.call hb2)
    clear hb2
    (try clear c0 c1)
    obtain ⟨c0, c1⟩ := H2.out.cells
    go_wp2_with fail
    refine (l2Rides_any x _ _ _ _ a _ H2.out.stops H2.out.lines hx HG.out ha).mono ?_
    rintro e w3 ⟨rfl, hr3, hb3⟩
    have H3 := Lib.hid (H2.out.call hb3)
    have d3 := hr3.cells b hb
    clear hb3 hr3
    (try clear c0 c1)
    obtain ⟨c0, c1⟩ := H3.out.cells
    go_wp2_with fail
    go_ret2
    exact ⟨retT H.out.1.symm H.out.2.symm, H3.out.bel⟩
  · have H := Lib.hid (num_yes (i := flI x a b) (by rw [HR.out]; omega))
    go_enter Try.func24, Try.ntmps24
    go_wp2_with fail
    refine (l2Stop_any x _ _ _ _ _ _ H0.out.stops H0.out.lines hx).mono ?_
    rintro e w1 ⟨rfl, hb1⟩
    have H1 := Lib.hid (H0.out.call hb1)
    clear hb1
    (try clear c0 c1)
    obtain ⟨c0, c1⟩ := H1.out.cells
    go_wp2_with fail
    refine (l2Stop_any x _ _ _ _ _ _ H1.out.stops H1.out.lines hx).mono ?_
    rintro e w2 ⟨rfl, hb2⟩
    have H2 := Lib.hid (H1.out.call hb2)
    clear hb2
    (try clear c0 c1)
    obtain ⟨c0, c1⟩ := H2.out.cells
    go_wp2_with fail
    refine (l2Rides_any x _ _ _ _ a _ H2.out.stops H2.out.lines hx HG.out ha).mono ?_
    rintro e w3 ⟨rfl, hr3, hb3⟩
    have H3 := Lib.hid (H2.out.call hb3)
    have d3 := hr3.cells b hb
    clear hb3 hr3
    (try clear c0 c1)
    obtain ⟨c0, c1⟩ := H3.out.cells
    go_wp2_with fail
    refine (l2Rides_any x _ _ _ _ a _ H3.out.stops H3.out.lines hx HG.out ha).mono ?_
    rintro e w4 ⟨rfl, hr4, hb4⟩
    have H4 := Lib.hid (H3.out.call hb4)
    have d4 := hr4.cells b hb
    clear hb4 hr4
    (try clear c0 c1)
    obtain ⟨c0, c1⟩ := H4.out.cells
    go_wp2_with fail
    go_ret2
    exact ⟨retT (by rw [HK.out, H.out.1, HR.out]) (by rw [HK.out, H.out.2]), H4.out.bel⟩

end Go.Proofs.Ytbneigkgdjcnjaa
