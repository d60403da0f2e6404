/- LinesAt: contracts. -/
import Derived.Test.YtbneigkgdjcnjaaLnA
import Derived.Test.YtbneigkgdjcnjaaApp
namespace Go.Proofs.Ytbneigkgdjcnjaa
open Go.ChangeShapes Go.WideShapes Go.ChangeAt Go.RowKit Go.PlainAid
set_option linter.unusedVariables false

/-- The numbers below n of which p says yes. -/
def filt (n : Nat) (p : Nat → Bool) : List Int := ((List.range n).filter p).map Int.ofNat
theorem filt_yes {k : Nat} {p : Nat → Bool} (h : p k = true) : filt (k + 1) p = filt k p ++ [(k : Int)] := by
  unfold filt
  rw [List.range_succ, List.filter_append, List.map_append, List.filter_cons, if_pos h]
  rfl
theorem filt_no {k : Nat} {p : Nat → Bool} (h : p k = false) : filt (k + 1) p = filt k p := by
  unfold filt
  rw [List.range_succ, List.filter_append, List.filter_cons, if_neg (by simp [h])]
  simp
theorem filt_len (n : Nat) (p : Nat → Bool) : (filt n p).length ≤ n := by
  unfold filt
  rw [List.length_map]
  have := List.length_filter_le p (List.range n)
  simpa using this
/-- Does a line serve a stop? -/
def onB (x : NetD) (s : Int) (k : Nat) : Bool := hasB (nthL x.lines k).stops s
/-- What LinesAt returns. -/
def laI (x : NetD) (s : Int) : List Int := if stopB x s = true then filt x.lines.length (onB x s) else []
theorem laI_no {x : NetD} {s : Int} (h : stopB x s = false) : laI x s = [] := by unfold laI; rw [h]; rfl
theorem laI_yes {x : NetD} {s : Int} (h : stopB x s = true) : laI x s = filt x.lines.length (onB x s) := by unfold laI; rw [h]; rfl
theorem laI_len (x : NetD) (s : Int) : (laI x s).length ≤ x.lines.length := by
  unfold laI
  split
  · exact filt_len _ _
  · simp
theorem hasB_ix {xs : List Int} {s : Int} : hasB xs s = decide (0 ≤ ixI xs s) := rfl

/-- What a slice of the call's own is at its end. -/
theorem OwnE.ret {w0 w : World} {B : Nat} {v : Value} {xs : List Int} {b : Bool} (h : OwnI w B v xs) (hB : w0.heap.size ≤ B) (hb : Below w0.heap.size w0 w) : RetInts xs b w0 (.returned (.tuple #[v, .bool b])) w := by
  obtain ⟨A, c, rfl, _, _, hi⟩ := h.ints
  exact ⟨A, c, rfl, hi.mono (Zone.new_le hB (Nat.le_refl _)), hb⟩
theorem retNil {w0 w : World} {xs : List Int} {b : Bool} (h : xs = []) (hb : Below w0.heap.size w0 w) : RetInts xs b w0 (.returned (.tuple #[.slice none 0 0, .bool b])) w := by
  subst h
  exact ⟨none, 0, rfl, fun h => absurd h (by simp), hb⟩

set_option maxRecDepth 100000 in
set_option maxHeartbeats 2000000 in
theorem implLinesAt_any (x : NetD) (A L : Option Addr) (ca cl : Nat) (s : Int) (w : World) (hA : StrsIn w (Zone.below w.heap.size) A x.stops) (hL : LinesIn w (Zone.below w.heap.size) L x.lines) (hx : Fits x) :
    Calls Try.prog 27 #[.agg #[.slice A x.stops.length ca, .slice L x.lines.length cl], .int .i64 s] w (RetInts (laI x s) (stopB x s) w) := by
  have H0 : Hid (NetBox w (w.alloc (.cells #[.slice A x.stops.length ca, .slice L x.lines.length cl] 31)) w.heap.size x A ca L cl) := Lib.hid (NetBox.box hA hL)
  have hn := hx.stops
  have hm := hx.lines
  clear hA hL
  cases g0 : netB x
  · have HG := Lib.hid (stopB_no (x := x) (s := s) (.inl g0))
    have H := Lib.hid (laI_no HG.out)
    go_enter Try.func27, Try.ntmps27
    go_wp2_with fail
    refine (isValidNetwork_any x _ _ _ _  _ H0.out.stops H0.out.lines hx).mono ?_
    rintro e w1 ⟨rfl, hb1⟩
    have H1 := Lib.hid (H0.out.call hb1)
    clear hb1
    (try clear c0 c1)
    obtain ⟨c0, c1⟩ := H1.out.cells
    go_wp2_with fail
    go_ret2
    rw [HG.out]
    exact retNil H.out H1.out.bel
  cases g1 : inB s 0 (x.stops.length - 1)
  · have HG := Lib.hid (stopB_no (x := x) (s := s) (.inr g1))
    have H := Lib.hid (laI_no HG.out)
    go_enter Try.func27, Try.ntmps27
    go_wp2_with fail
    refine (isValidNetwork_any x _ _ _ _  _ H0.out.stops H0.out.lines hx).mono ?_
    rintro e w1 ⟨rfl, hb1⟩
    have H1 := Lib.hid (H0.out.call hb1)
    clear hb1
    (try clear c0 c1)
    obtain ⟨c0, c1⟩ := H1.out.cells
    go_wp2_with fail
    refine (isStop_any x _ _ _ _ s _  hn).mono ?_
    rintro e w2 ⟨rfl, hb2⟩
    have H2 := Lib.hid (H1.out.call hb2)
    clear hb2
    (try clear c0 c1)
    obtain ⟨c0, c1⟩ := H2.out.cells
    go_wp2_with fail
    go_ret2
    rw [HG.out]
    exact retNil H.out H2.out.bel
  have HG := Lib.hid (stopB_yes g0 g1)
  have H := Lib.hid (laI_yes HG.out)
  go_enter Try.func27, Try.ntmps27
  go_wp2_with fail
  refine (isValidNetwork_any x _ _ _ _  _ H0.out.stops H0.out.lines hx).mono ?_
  rintro e w1 ⟨rfl, hb1⟩
  have H1 := Lib.hid (H0.out.call hb1)
  clear hb1
  (try clear c0 c1)
  obtain ⟨c0, c1⟩ := H1.out.cells
  go_wp2_with fail
  refine (isStop_any x _ _ _ _ s _  hn).mono ?_
  rintro e w2 ⟨rfl, hb2⟩
  have H2 := Lib.hid (H1.out.call hb2)
  clear hb2
  (try clear c0 c1)
  obtain ⟨c0, c1⟩ := H2.out.cells
  go_wp2_with fail
  clear c0 c1
  go_loopw [6, 7, 8, 21] (fun v u7 u8 i wr => ∃ k : Nat, k ≤ x.lines.length ∧ i = .int .i64 k ∧ OwnI wr w2.heap.size v (filt k (onB x s)) ∧ Below w2.heap.size w2 wr) (fun _ _ _ i _ => x.lines.length - (intOf i).toNat)
  case atStart => exact ⟨0, Nat.zero_le _, rfl, OwnE.nil, Below.refl _ _⟩
  case round =>
    obtain ⟨k, hk, rfl, ho, hb⟩ := hrel
    have HO := Lib.hid ho
    have HB := Lib.hid hb
    have hz := hb.size
    clear ho
    by_cases hlt : k < x.lines.length
    · obtain ⟨b, o, rfl, hbl, S, cs, R, cr, hc0, hc1, hc2, hi1, hi2⟩ := LinesIn.line (H2.out.lines.call hb) hlt
      obtain ⟨_, e2, e3⟩ := hx.each k hlt
      have HI := Lib.hid hi1
      have hfl := filt_len k (onB x s)
      clear hb hi1 hi2
      cases hg : onB x s k
      · have HF := Lib.hid (filt_no hg)
        unfold onB at hg
        go_wp2_with (go_at_call 81; refine (slicesContains_any _ _ _ _ _ (IntsIn.at (HI.out.call (by go_grown))) e2).mono ?_; rintro e w5 ⟨rfl, rfl⟩)
        go_roundw
        case rel => exact ⟨k + 1, by omega, by go_num, by rw [HF.out]; exact HO.out.alloc _, HB.out.alloc hz _⟩
        case measure => simp [intOf]; omega
      · have HF := Lib.hid (filt_yes hg)
        unfold onB at hg
        go_wp2_with (first
          | (go_at_call 81; refine (slicesContains_any _ _ _ _ _ (IntsIn.at (HI.out.call (by go_grown))) e2).mono ?_; rintro e w5 ⟨rfl, rfl⟩)
          | (at_builtin; refine wp_appI rfl _ _ rfl w2.heap.size _ (filt k (onB x s)) k _ (HO.out.alloc _) rfl _ rfl (by simp) (by omega) (by simp; omega) ?_; intro v' w' ho' hb'; have HO' := Lib.hid ho'; have HB' := Lib.hid hb'; clear ho' hb'))
        go_roundw
        case rel => exact ⟨k + 1, by omega, by go_num, by rw [HF.out]; exact HO'.out, (HB.out.alloc hz _).trans HB'.out⟩
        case measure => simp [intOf]; omega
    · obtain rfl : k = x.lines.length := by omega
      clear hb
      go_wp2_with fail
      go_ret2
      rw [H.out, HG.out]
      exact HO.out.ret H2.out.bel.size (bel_of H2.out.bel H2.out.bel.size HB.out)

set_option maxRecDepth 100000 in
set_option maxHeartbeats 2000000 in
theorem specLinesAt_any (x : NetD) (A L : Option Addr) (ca cl : Nat) (s : Int) (w : World) (hA : StrsIn w (Zone.below w.heap.size) A x.stops) (hL : LinesIn w (Zone.below w.heap.size) L x.lines) (hx : Fits x) :
    Calls Try.prog 26 #[.agg #[.slice A x.stops.length ca, .slice L x.lines.length cl], .int .i64 s] w (RetInts (laI x s) (stopB x s) w) := by
  have H0 : Hid (NetBox w (w.alloc (.cells #[.slice A x.stops.length ca, .slice L x.lines.length cl] 31)) w.heap.size x A ca L cl) := Lib.hid (NetBox.box hA hL)
  have hn := hx.stops
  have hm := hx.lines
  clear hA hL
  have H1 : Hid (NetBox w ((w.alloc (.cells #[.slice A x.stops.length ca, .slice L x.lines.length cl] 31)).alloc (.cells #[] 3)) w.heap.size x A ca L cl) := Lib.hid (H0.out.call (by go_grown))
  have HO1 : Hid (OwnI ((w.alloc (.cells #[.slice A x.stops.length ca, .slice L x.lines.length cl] 31)).alloc (.cells #[] 3)) (w.heap.size + 1) (.slice (some ⟨w.heap.size + 1, 0, none⟩) 0 0) []) := Lib.hid (by simpa using OwnE.empty (e := 3) (m := 1) (enc := encI) (w := w.alloc (.cells #[.slice A x.stops.length ca, .slice L x.lines.length cl] 31)) (Nat.le_refl _))
  have hw1 : w.heap.size + 1 < ((w.alloc (.cells #[.slice A x.stops.length ca, .slice L x.lines.length cl] 31)).alloc (.cells #[] 3)).heap.size := by simp
  clear H0
  cases g : stopB x s
  · have H := Lib.hid (laI_no g)
    go_enter Try.func26, Try.ntmps26
    go_wp2_with fail
    generalize ((w.alloc (.cells #[.slice A x.stops.length ca, .slice L x.lines.length cl] 31)).alloc (.cells #[] 3)) = w1 at *
    refine (l2Stop_any x _ _ _ _ s _ H1.out.stops H1.out.lines hx).mono ?_
    rintro e w2 ⟨rfl, hb2⟩
    have H2 := Lib.hid (H1.out.call hb2)
    have HO2 := Lib.hid (HO1.out.call hb2)
    have hw2 := hb2.size
    clear hb2
    go_wp2_with fail
    go_ret2
    rw [H.out]
    exact HO2.out.ret (by omega) H2.out.bel
  · have H := Lib.hid (laI_yes g)
    go_enter Try.func26, Try.ntmps26
    go_wp2_with fail
    generalize ((w.alloc (.cells #[.slice A x.stops.length ca, .slice L x.lines.length cl] 31)).alloc (.cells #[] 3)) = w1 at *
    refine (l2Stop_any x _ _ _ _ s _ H1.out.stops H1.out.lines hx).mono ?_
    rintro e w2 ⟨rfl, hb2⟩
    have H2 := Lib.hid (H1.out.call hb2)
    have HO2 := Lib.hid (HO1.out.call hb2)
    have hw2 := hb2.size
    clear hb2
    go_wp2_with fail
    go_loopw [6, 7] (fun v i wr => ∃ k : Nat, k ≤ x.lines.length ∧ i = .int .i64 k ∧ OwnI wr (w.heap.size + 1) v (filt k (onB x s)) ∧ Below (w.heap.size + 1) w2 wr) (fun _ i _ => x.lines.length - (intOf i).toNat)
    case atStart => exact ⟨0, Nat.zero_le _, rfl, HO2.out, Below.refl _ _⟩
    case round =>
      obtain ⟨k, hk, rfl, ho, hb⟩ := hrel
      have HO := Lib.hid ho
      have HB := Lib.hid hb
      have hz := hb.size
      have H3 := Lib.hid (H2.out.callB hb (Nat.lt_succ_self _))
      clear ho hb
      obtain ⟨c0, c1⟩ := H3.out.cells
      by_cases hlt : k < x.lines.length
      · obtain ⟨b, o, rfl, hbl, S, cs, R, cr, hc0, hc1, hc2, hi1, hi2⟩ := LinesIn.line H3.out.lines hlt
        obtain ⟨_, e2, e3⟩ := hx.each k hlt
        have HI := Lib.hid hi1
        have hfl := filt_len k (onB x s)
        have hj : (k : Int) < x.lines.length := by omega
        clear hi1 hi2
        cases hg : onB x s k
        · have HF := Lib.hid (filt_no hg)
          unfold onB at hg
          rw [hasB_ix] at hg
          go_wp2_with fail
          refine (l2Place_any (nthL x.lines k) _ _ _ _ _ _ HI.out e2).mono ?_
          rintro e w5 ⟨rfl, hb5⟩
          have HB5 := Lib.hid (HB.out.trans (hb5.mono (by omega)))
          have HO5 := Lib.hid (HO.out.call hb5)
          clear hb5
          go_wp2_with fail
          go_roundw
          case rel => exact ⟨k + 1, by omega, by go_num, by rw [HF.out]; exact HO5.out, HB5.out⟩
          case measure => simp [intOf]; omega
        · have HF := Lib.hid (filt_yes hg)
          unfold onB at hg
          rw [hasB_ix] at hg
          go_wp2_with fail
          refine (l2Place_any (nthL x.lines k) _ _ _ _ _ _ HI.out e2).mono ?_
          rintro e w5 ⟨rfl, hb5⟩
          have HB5 := Lib.hid (HB.out.trans (hb5.mono (by omega)))
          have HO5 := Lib.hid (HO.out.call hb5)
          have hz5 := hb5.size
          clear hb5
          go_wp2_with (at_builtin; refine wp_appI rfl _ _ rfl (w.heap.size + 1) _ (filt k (onB x s)) k _ HO5.out rfl _ rfl (by simp) (by omega) (by omega) ?_; intro v' w' ho' hb'; have HO' := Lib.hid ho'; have HB' := Lib.hid hb'; clear ho' hb')
          go_roundw
          case rel => exact ⟨k + 1, by omega, by go_num, by rw [HF.out]; exact HO'.out, HB5.out.trans HB'.out⟩
          case measure => simp [intOf]; omega
      · obtain rfl : k = x.lines.length := by omega
        go_wp2_with fail
        go_ret2
        rw [H.out]
        exact HO.out.ret (by omega) H3.out.bel
end Go.Proofs.Ytbneigkgdjcnjaa
