/- TerminalStops of the reference. -/
import Derived.Test.YtbneigkgdjcnjaaTmd
import Derived.Deep.RegionHeld3
import Derived.Deep.DrawnRows
namespace Go.Proofs.Ytbneigkgdjcnjaa
open Go.ChangeShapes Go.WideShapes Go.ChangeAt Go.RowKit Go.PlainAid
set_option linter.unusedVariables false

theorem filt_none (n : Nat) : filt n (fun _ => false) = [] := by
  induction n with
  | zero => rfl
  | succ n ih => rw [filt_no rfl, ih]
theorem anyK_zero (x : NetD) : filt x.stops.length (anyK x 0) = [] := by rw [filt_congr (p := anyK x 0) (q := fun _ => false) (fun _ _ => rfl), filt_none]
/-- One line more. -/
theorem put_ends {x : NetD} {k s0 s1 : Nat} (h0 : nth (nthL x.lines k).stops 0 = (s0 : Int)) (h1 : nth (nthL x.lines k).stops ((nthL x.lines k).stops.length - 1) = (s1 : Int)) (l0 : s0 < x.stops.length) (l1 : s1 < x.stops.length) :
    putI (putI (filt x.stops.length (anyK x k)) (s0 : Int)) (s1 : Int) = filt x.stops.length (anyK x (k + 1)) := by
  rw [put_filt _ l0, put_filt _ l1]
  refine filt_congr fun j hj => ?_
  show (anyK x k j || j == s0 || j == s1) = (anyK x k j || endB (nthL x.lines k) (j : Int))
  unfold endB
  rw [h0, h1, Bool.or_assoc]
  have e : ∀ s : Nat, (j == s) = ((s : Int) == (j : Int)) := fun s => by
    rw [Bool.eq_iff_iff]; simp; omega
  rw [e s0, e s1]
theorem put_fit {x : NetD} {k s0 : Nat} (l0 : s0 < x.stops.length) : (putI (filt x.stops.length (anyK x k)) (s0 : Int)).length ≤ x.stops.length := by
  rw [put_filt _ l0]
  exact filt_len _ _

theorem retS {A : Option Addr} {xs ys : List Int} {c : Nat} {b : Bool} (h : xs = ys) : Ending.returned (.tuple #[.slice A xs.length c, .bool b]) = .returned (.tuple #[.slice A ys.length c, .bool b]) := by rw [h]
set_option maxRecDepth 100000 in
set_option maxHeartbeats 2000000 in
theorem specTerminalStops_any (x : NetD) (A L : Option Addr) (ca cl : Nat) (w : World) (hA : StrsIn w (Zone.below w.heap.size) A x.stops) (hL : LinesIn w (Zone.below w.heap.size) L x.lines) (hx : Fits x) :
    Calls Try.prog 32 #[.agg #[.slice A x.stops.length ca, .slice L x.lines.length cl]] w (RetInts (tsI x) (netB x) w) := by
  have H0 : Hid (NetBox w (w.alloc (.cells #[.slice A x.stops.length ca, .slice L x.lines.length cl] 31)) w.heap.size x A ca L cl) := Lib.hid (NetBox.box hA hL)
  have hn := hx.stops
  have hm := hx.lines
  clear hA hL
  have H1 : Hid (NetBox w ((w.alloc (.cells #[.slice A x.stops.length ca, .slice L x.lines.length cl] 31)).alloc (.cells #[] 3)) w.heap.size x A ca L cl) := Lib.hid (H0.out.call (by go_grown))
  have hw1 : w.heap.size + 1 < ((w.alloc (.cells #[.slice A x.stops.length ca, .slice L x.lines.length cl] 31)).alloc (.cells #[] 3)).heap.size := by simp
  clear H0
  cases g : netB x
  · have H := Lib.hid (tsI_no g)
    go_enter Try.func32, Try.ntmps32
    go_wp2_with fail
    generalize ((w.alloc (.cells #[.slice A x.stops.length ca, .slice L x.lines.length cl] 31)).alloc (.cells #[] 3)) = w1 at *
    refine (l2Good_any x _ _ _ _ _ H1.out.stops H1.out.lines hx).mono ?_
    rintro e w2 ⟨rfl, hb2⟩
    have H2 := Lib.hid (H1.out.call hb2)
    clear hb2
    go_wp2_with fail
    go_ret2
    exact ⟨some ⟨w.heap.size + 1, 0, none⟩, 0, by rw [H.out]; rfl, by rw [H.out]; exact fun h => absurd h (by simp), H2.out.bel⟩
  have H := Lib.hid (tsI_yes g)
  have HL : Hid (∀ k, k < x.lines.length → LineOk x.stops.length (nthL x.lines k)) := Lib.hid (fun k hk => of_decide_eq_true ((netB_ok g).each k hk))
  go_enter Try.func32, Try.ntmps32
  go_wp2_with fail
  generalize ((w.alloc (.cells #[.slice A x.stops.length ca, .slice L x.lines.length cl] 31)).alloc (.cells #[] 3)) = w1 at *
  refine (l2Good_any x _ _ _ _ _ H1.out.stops H1.out.lines hx).mono ?_
  rintro e w2 ⟨rfl, hb2⟩
  have H2 := Lib.hid (H1.out.call hb2)
  have hw2 := hb2.size
  clear hb2
  go_wp2_with fail
  go_loopw [4, 5] (fun v i wr => ∃ k : Nat, k ≤ x.lines.length ∧ i = .int .i64 k ∧ (∃ b o c, v = .slice (some ⟨b, o, none⟩) (filt x.stops.length (anyK x k)).length c ∧ IntsIn wr (Zone.new (w.heap.size + 1) wr.heap.size) (some ⟨b, o, none⟩) (filt x.stops.length (anyK x k)) ∧ (filt x.stops.length (anyK x k)).length ≤ c ∧ c ≤ 9223372036854775807) ∧ Below (w.heap.size + 1) w2 wr) (fun _ i _ => x.lines.length - (intOf i).toNat)
  case atStart => exact ⟨0, Nat.zero_le _, rfl, ⟨_, _, _, by rw [anyK_zero]; rfl, by rw [anyK_zero]; exact fun h => absurd h (by simp), by rw [anyK_zero]; simp, by omega⟩, Below.refl _ _⟩
  case round =>
    obtain ⟨k, hk, rfl, ⟨b1, o1, c1, rfl, ho, hc1, hc2⟩, hb⟩ := hrel
    have HO := Lib.hid ho
    have HB := Lib.hid hb
    have hz := hb.size
    have H3 := Lib.hid (H2.out.callB hb (Nat.lt_succ_self _))
    have hfl := filt_len x.stops.length (anyK x k)
    clear ho hb
    obtain ⟨c0, c1'⟩ := H3.out.cells
    by_cases hlt : k < x.lines.length
    · obtain ⟨b, o, rfl, hbl, S, cs, R, cr, hc3, hc4, hc5, hi1, hi2, hs1, hs2⟩ := LinesIn.lineC H3.out.lines hlt
      obtain ⟨q1, q2, q3⟩ := HL.out k hlt
      unfold LineHd at q1
      obtain ⟨n, hnn⟩ : ∃ n : Nat, (nthL x.lines k).stops.length = n + 1 := ⟨(nthL x.lines k).stops.length - 1, by omega⟩
      obtain ⟨bs, os, rfl, hbsl, hcs⟩ := (IntsIn.at hi1) (by omega)
      have s0 := inB_iff.1 (q2 0 (by omega)).1
      have s1 := inB_iff.1 (q2 n (by omega)).1
      obtain ⟨v0, hv0⟩ : ∃ v0 : Nat, nth (nthL x.lines k).stops 0 = (v0 : Int) := ⟨(nth (nthL x.lines k).stops 0).toNat, by omega⟩
      obtain ⟨v1, hv1⟩ : ∃ v1 : Nat, nth (nthL x.lines k).stops n = (v1 : Int) := ⟨(nth (nthL x.lines k).stops n).toNat, by omega⟩
      have l0 : v0 < x.stops.length := by omega
      have l1 : v1 < x.stops.length := by omega
      have HE := Lib.hid (put_ends (x := x) (k := k) hv0 (by rw [hnn]; exact hv1) l0 l1)
      have hfit := put_fit (x := x) (k := k) l0
      have hi00 : 0 < (nthL x.lines k).stops.length := by omega
      have hi0 : (0 : Int) < ((nthL x.lines k).stops.length : Int) := by omega
      have hin : (n : Int) < ((nthL x.lines k).stops.length : Int) := by omega
      have hwr : IntKind.i64.wrap (((nthL x.lines k).stops.length : Int) - 1) = (n : Int) := by rw [show ((nthL x.lines k).stops.length : Int) - 1 = (n : Int) by omega]; exact IntWalk.i64_in _ (by omega)
      have hj : (k : Int) < x.lines.length := by omega
      have e0 : wr.cell? ⟨bs, os, none⟩ = some (.int .i64 (v0 : Int)) := by rw [← hv0]; exact hcs 0 (by omega)
      have en : wr.cell? ⟨bs, os + n, none⟩ = some (.int .i64 (v1 : Int)) := by rw [← hv1]; exact hcs n (by omega)
      have E0 := Lib.hid e0
      have EN := Lib.hid en
      clear hi1 hi2 q1 q2 q3 s0 s1 hv0 hv1 hnn hcs e0 en
      go_wp2_with fail
      have HB3 : Hid (Below wr.heap.size wr (wr.alloc (.cells #[.string (nthL x.lines k).name, .slice (some ⟨bs, os, none⟩) (nthL x.lines k).stops.length cs, .slice R (nthL x.lines k).runs.length cr] 94))) := Lib.hid (by go_grown)
      have d1 : (wr.alloc (.cells #[.string (nthL x.lines k).name, .slice (some ⟨bs, os, none⟩) (nthL x.lines k).stops.length cs, .slice R (nthL x.lines k).runs.length cr] 94)).cell? ⟨wr.heap.size, 1, none⟩ = some (.slice (some ⟨bs, os, none⟩) (nthL x.lines k).stops.length cs) := by go_simp
      have hzn : wr.heap.size < (wr.alloc (.cells #[.string (nthL x.lines k).name, .slice (some ⟨bs, os, none⟩) (nthL x.lines k).stops.length cs, .slice R (nthL x.lines k).runs.length cr] 94)).heap.size := by simp
      have D1 := Lib.hid d1
      clear d1 hc3 hc4 hc5 c0 c1'
      generalize (wr.alloc (.cells #[.string (nthL x.lines k).name, .slice (some ⟨bs, os, none⟩) (nthL x.lines k).stops.length cs, .slice R (nthL x.lines k).runs.length cr] 94)) = wn at *
      have HC : ∀ w', Below wn.heap.size wn w' → w'.cell? ⟨wr.heap.size, 1, none⟩ = some (.slice (some ⟨bs, os, none⟩) (nthL x.lines k).stops.length cs) ∧ w'.cell? ⟨bs, os, none⟩ = some (.int .i64 (v0 : Int)) ∧ w'.cell? ⟨bs, os + n, none⟩ = some (.int .i64 (v1 : Int)) := fun w' hb =>
        ⟨(hb.cell (p := ⟨_, _, none⟩) hzn).trans D1.out, ((hb.cell (p := ⟨_, _, none⟩) (by show bs < _; omega)).trans (HB3.out.cell (p := ⟨_, _, none⟩) hbsl)).trans E0.out, ((hb.cell (p := ⟨_, _, none⟩) (by show bs < _; omega)).trans (HB3.out.cell (p := ⟨_, _, none⟩) hbsl)).trans EN.out⟩
      have HX : ∀ w', Below wn.heap.size wn w' → IntsIn w' (Zone.new (w.heap.size + 1) w'.heap.size) (some ⟨b1, o1, none⟩) (filt x.stops.length (anyK x k)) := fun w' hb => ((HO.out.new_call HB3.out (Nat.le_refl _)).new_call hb (Nat.le_of_lt hzn)).mono (Zone.new_le (Nat.le_refl _) (Nat.le_trans (Nat.le_of_lt hzn) hb.size))
      have HXH := Lib.hid HX
      clear HX
      go_region_held3 (fun w' => Below wn.heap.size wn w') (repeat' first | assumption | exact Nat.le_refl _ | exact Below.refl _ _ | (refine bel_drew ?_) | (refine bel_alloc ?_ _) | (refine bel_set ?_ ?_ _))
        (first
          | (go_at_call 84; (with_reducible refine (l1Put_any (w.heap.size + 1) b1 o1 c1 (filt x.stops.length (anyK x k)) (v0 : Int) _ (HXH.out _ ‹Below wn.heap.size wn _›) (by have := (‹Below wn.heap.size wn _›).size; omega) hc1 hc2 (by omega)).mono ?_); rintro e w5 ⟨b5, o5, c5, rfl, hi5, hl5, hm5, hb5⟩; have hB5 := bel_call ‹Below wn.heap.size wn _› hb5; clear hb5)
          | (go_at_call 84; (refine (l1Put_any (w.heap.size + 1) b5 o5 c5 _ (v1 : Int) _ hi5 (by have := hB5.size; omega) hl5 hm5 (by omega)).mono ?_); rintro e w6 ⟨b6, o6, c6, rfl, hi6, hl6, hm6, hb6⟩; have hB6 := bel_call ‹Below wn.heap.size wn _› hb6; clear hb6)
          | fail)
      all_goals
        rw [HE.out] at hi6 hl6
        have HI6 := Lib.hid hi6
        have HB6 := Lib.hid (HB.out.trans ((HB3.out.trans (hB6.mono (Nat.le_of_lt hzn))).mono (by omega)))
        have HE6 := Lib.hid HE.out
        clear hi6 hB6 hi5 hB5 HC
        go_wp2_with fail
        go_roundw
        case rel => exact ⟨k + 1, by omega, by go_num, ⟨b6, o6, c6, by rw [HE6.out], HI6.out, hl6, hm6⟩, HB6.out⟩
        case measure => simp [intOf]; omega
    · obtain rfl : k = x.lines.length := by omega
      go_wp2_with fail
      go_ret2
      exact ⟨some ⟨b1, o1, none⟩, c1, retS H.out.symm, by rw [H.out]; exact HO.out.mono (Zone.new_le (by omega) (Nat.le_refl _)), H3.out.bel⟩

end Go.Proofs.Ytbneigkgdjcnjaa
