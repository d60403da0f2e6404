/- StopNumber and LineNumber: contracts. -/
import Derived.Test.YtbneigkgdjcnjaaNetC
namespace Go.Proofs.Ytbneigkgdjcnjaa
open Go.ChangeShapes Go.WideShapes Go.ChangeAt Go.RowKit Go.PlainAid
set_option linter.unusedVariables false

theorem specStopNumber_any (x : NetD) (A L : Option Addr) (ca cl : Nat) (s : ByteArray) (w : World) (hA : StrsIn w (Zone.below w.heap.size) A x.stops) (hL : LinesIn w (Zone.below w.heap.size) L x.lines) (hx : Fits x) :
    Calls Try.prog 16 #[.agg #[.slice A x.stops.length ca, .slice L x.lines.length cl], .string s] w fun e w' => e = .returned (.tuple #[.int .i64 (numI (netB x) (ixS x.stops s)), .bool (numB (netB x) (ixS x.stops s))]) ∧ Below w.heap.size w w' := by
  have H0 : Hid (NetBox w (w.alloc (.cells #[.slice A x.stops.length ca, .slice L x.lines.length cl] 31)) w.heap.size x A ca L cl) := Lib.hid (NetBox.box hA hL)
  have hn := hx.stops
  have hm := hx.lines
  clear hA hL
  cases hb : netB x
  · have H := Lib.hid (num_no (ok := false) (i := ixS x.stops s) (.inl rfl))
    go_enter Try.func16, Try.ntmps16
    go_wp2_with fail
    refine (l2Good_any x _ _ _ _ _ H0.out.stops H0.out.lines hx).mono ?_
    rintro e w1 ⟨rfl, hb1⟩
    have H1 := Lib.hid (H0.out.call hb1)
    clear hb1
    go_wp2_with fail
    go_ret2
    exact ⟨retT H.out.1.symm H.out.2.symm, H1.out.bel⟩
  · have H := Lib.hid (show numI true (ixS x.stops s) = (if ixS x.stops s < 0 then 0 else ixS x.stops s) ∧ numB true (ixS x.stops s) = (if ixS x.stops s < 0 then false else true) by
      split
      · exact num_no (.inr (by assumption))
      · exact num_yes (by omega))
    by_cases hi : ixS x.stops s < 0
    all_goals
      simp only [hi, if_true, if_false] at H
      go_enter Try.func16, Try.ntmps16
      go_wp2_with fail
      refine (l2Good_any x _ _ _ _ _ H0.out.stops H0.out.lines hx).mono ?_
      rintro e w1 ⟨rfl, hb1⟩
      have H1 := Lib.hid (H0.out.call hb1)
      clear hb1
      obtain ⟨c0, c1⟩ := H1.out.cells
      go_wp2_with (go_at_call 62; refine (l2FindE _ _ _ _ _ _ H1.out.stops hn).mono ?_; rintro e w2 ⟨rfl, rfl⟩)
      go_ret2
      exact ⟨retT H.out.1.symm H.out.2.symm, H1.out.bel⟩

theorem implStopNumber_any (x : NetD) (A L : Option Addr) (ca cl : Nat) (s : ByteArray) (w : World) (hA : StrsIn w (Zone.below w.heap.size) A x.stops) (hL : LinesIn w (Zone.below w.heap.size) L x.lines) (hx : Fits x) :
    Calls Try.prog 18 #[.agg #[.slice A x.stops.length ca, .slice L x.lines.length cl], .string s] w fun e w' => e = .returned (.tuple #[.int .i64 (numI (netB x) (ixS x.stops s)), .bool (numB (netB x) (ixS x.stops s))]) ∧ Below w.heap.size w w' := by
  have H0 : Hid (NetBox w (w.alloc (.cells #[.slice A x.stops.length ca, .slice L x.lines.length cl] 31)) w.heap.size x A ca L cl) := Lib.hid (NetBox.box hA hL)
  have hn := hx.stops
  have hm := hx.lines
  clear hA hL
  cases hb : netB x
  · have H := Lib.hid (num_no (ok := false) (i := ixS x.stops s) (.inl rfl))
    go_enter Try.func18, Try.ntmps18
    go_wp2_with fail
    refine (isValidNetwork_any x _ _ _ _ _ H0.out.stops H0.out.lines hx).mono ?_
    rintro e w1 ⟨rfl, hb1⟩
    have H1 := Lib.hid (H0.out.call hb1)
    clear hb1
    go_wp2_with fail
    go_ret2
    exact ⟨retT H.out.1.symm H.out.2.symm, H1.out.bel⟩
  · go_enter Try.func18, Try.ntmps18
    go_wp2_with fail
    refine (isValidNetwork_any x _ _ _ _ _ H0.out.stops H0.out.lines hx).mono ?_
    rintro e w1 ⟨rfl, hb1⟩
    have H1 := Lib.hid (H0.out.call hb1)
    clear hb1
    obtain ⟨c0, c1⟩ := H1.out.cells
    go_wp2_with (first
      | (go_at_call 67; refine (slicesIndexS_any _ _ _ _ _ _ H1.out.stops hn).mono ?_; rintro e w2 ⟨rfl, rfl⟩)
      | (go_at_call 66; refine (found_any _ _).mono ?_; rintro e w2 ⟨rfl, rfl⟩))
    go_ret2
    exact ⟨rfl, H1.out.bel⟩

theorem specLineNumber_any (x : NetD) (A L : Option Addr) (ca cl : Nat) (s : ByteArray) (w : World) (hA : StrsIn w (Zone.below w.heap.size) A x.stops) (hL : LinesIn w (Zone.below w.heap.size) L x.lines) (hx : Fits x) :
    Calls Try.prog 20 #[.agg #[.slice A x.stops.length ca, .slice L x.lines.length cl], .string s] w fun e w' => e = .returned (.tuple #[.int .i64 (numI (netB x) (ixS (namesOf x.lines) s)), .bool (numB (netB x) (ixS (namesOf x.lines) s))]) ∧ Below w.heap.size w w' := by
  have H0 : Hid (NetBox w (w.alloc (.cells #[.slice A x.stops.length ca, .slice L x.lines.length cl] 31)) w.heap.size x A ca L cl) := Lib.hid (NetBox.box hA hL)
  have hn := hx.stops
  have hm := hx.lines
  clear hA hL
  cases hb : netB x
  · have H := Lib.hid (num_no (ok := false) (i := ixS (namesOf x.lines) s) (.inl rfl))
    go_enter Try.func20, Try.ntmps20
    go_wp2_with fail
    refine (l2Good_any x _ _ _ _ _ H0.out.stops H0.out.lines hx).mono ?_
    rintro e w1 ⟨rfl, hb1⟩
    have H1 := Lib.hid (H0.out.call hb1)
    clear hb1
    go_wp2_with fail
    go_ret2
    exact ⟨retT H.out.1.symm H.out.2.symm, H1.out.bel⟩
  · have H := Lib.hid (show numI true (ixS (namesOf x.lines) s) = (if ixS (namesOf x.lines) s < 0 then 0 else ixS (namesOf x.lines) s) ∧ numB true (ixS (namesOf x.lines) s) = (if ixS (namesOf x.lines) s < 0 then false else true) by
      split
      · exact num_no (.inr (by assumption))
      · exact num_yes (by omega))
    by_cases hi : ixS (namesOf x.lines) s < 0
    all_goals
      simp only [hi, if_true, if_false] at H
      go_enter Try.func20, Try.ntmps20
      go_wp2_with fail
      refine (l2Good_any x _ _ _ _ _ H0.out.stops H0.out.lines hx).mono ?_
      rintro e w1 ⟨rfl, hb1⟩
      have H1 := Lib.hid (H0.out.call hb1)
      clear hb1
      obtain ⟨c0, c1⟩ := H1.out.cells
      go_wp2_with fail
      refine (l2LineNamed_any x _ _ _ _ _ _ H1.out.lines hm).mono ?_
      rintro e w2 ⟨rfl, hb2⟩
      have H2 := Lib.hid (H1.out.call hb2)
      clear hb2
      clear c0 c1
      obtain ⟨c0, c1⟩ := H2.out.cells
      go_wp2_with fail
      first
        | (refine (l2LineNamed_any x _ _ _ _ _ _ H2.out.lines hm).mono ?_
           rintro e w3 ⟨rfl, hb3⟩
           have H3 := Lib.hid (H2.out.call hb3)
           clear hb3
           go_wp2_with fail
           go_ret2
           exact ⟨retT H.out.1.symm H.out.2.symm, H3.out.bel⟩)
        | (go_ret2
           exact ⟨retT H.out.1.symm H.out.2.symm, H2.out.bel⟩)

theorem implLineNumber_any (x : NetD) (A L : Option Addr) (ca cl : Nat) (s : ByteArray) (w : World) (hA : StrsIn w (Zone.below w.heap.size) A x.stops) (hL : LinesIn w (Zone.below w.heap.size) L x.lines) (hx : Fits x) :
    Calls Try.prog 21 #[.agg #[.slice A x.stops.length ca, .slice L x.lines.length cl], .string s] w fun e w' => e = .returned (.tuple #[.int .i64 (numI (netB x) (ixS (namesOf x.lines) s)), .bool (numB (netB x) (ixS (namesOf x.lines) s))]) ∧ Below w.heap.size w w' := by
  have H0 : Hid (NetBox w (w.alloc (.cells #[.slice A x.stops.length ca, .slice L x.lines.length cl] 31)) w.heap.size x A ca L cl) := Lib.hid (NetBox.box hA hL)
  have hn := hx.stops
  have hm := hx.lines
  clear hA hL
  cases hb : netB x
  · have H := Lib.hid (num_no (ok := false) (i := ixS (namesOf x.lines) s) (.inl rfl))
    go_enter Try.func21, Try.ntmps21
    go_wp2_with fail
    refine (isValidNetwork_any x _ _ _ _ _ H0.out.stops H0.out.lines hx).mono ?_
    rintro e w1 ⟨rfl, hb1⟩
    have H1 := Lib.hid (H0.out.call hb1)
    clear hb1
    go_wp2_with fail
    go_ret2
    exact ⟨retT H.out.1.symm H.out.2.symm, H1.out.bel⟩
  · go_enter Try.func21, Try.ntmps21
    go_wp2_with fail
    refine (isValidNetwork_any x _ _ _ _ _ H0.out.stops H0.out.lines hx).mono ?_
    rintro e w1 ⟨rfl, hb1⟩
    have H1 := Lib.hid (H0.out.call hb1)
    clear hb1
    obtain ⟨c0, c1⟩ := H1.out.cells
    have HLen := Lib.hid (namesOf_length x.lines)
    go_wp2_with fail
    refine (lineNames_any x _ _ _ _ _ H1.out.lines hm).mono ?_
    rintro e w2 ⟨g, rfl, hi1, hb2⟩
    have H2 := Lib.hid (H1.out.call hb2)
    have hq := slicesIndexS_any (some ⟨g, 0, none⟩) x.lines.length (namesOf x.lines) s w2 _ hi1 (by have := HLen.out; omega)
    rw [HLen.out] at hq
    have HQ := Lib.hid hq
    clear hb2 hi1 hq
    go_wp2_with (first
      | (go_at_call 67; refine HQ.out.mono ?_; rintro e w3 ⟨rfl, rfl⟩)
      | (go_at_call 66; refine (found_any _ _).mono ?_; rintro e w3 ⟨rfl, rfl⟩))
    go_ret2
    exact ⟨rfl, H2.out.bel⟩

end Go.Proofs.Ytbneigkgdjcnjaa
