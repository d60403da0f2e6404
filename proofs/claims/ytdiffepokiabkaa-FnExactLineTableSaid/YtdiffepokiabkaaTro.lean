/- The trips of a line. -/
import Derived.Test.YtdiffepokiabkaaHdp
namespace Go.Proofs.Ytdiffepokiabkaa
open Go.ChangeShapes Go.WideShapes Go.ChangeAt Go.RowKit Go.PlainAid
set_option linter.unusedVariables false
set_option linter.unusedSimpArgs false

/-- The trips of a line in new memory, in the order of their starts. -/
def RetTs (zs : List I3) (xs : List Int) (n : Nat) (w : World) (e : Ending) (w' : World) : Prop :=
  ∃ ys A c, e = .returned (.slice A ys.length c) ∧ ys.map (fun t => t.c) = xs ∧ ys.Perm zs ∧ ys.length ≤ n ∧ I3sIn w' (Zone.new w.heap.size w'.heap.size) A ys ∧ Below w.heap.size w w'
set_option maxRecDepth 100000 in
set_option maxHeartbeats 4000000 in
theorem tripsOf_any (x : TTD) (A L T : Option Addr) (ca cl ct : Nat) (l : Int) (w : World) (hA : StrsIn w (Zone.below w.heap.size) A x.net.stops) (hL : LinesIn w (Zone.below w.heap.size) L x.net.lines) (hT : I3sIn w (Zone.below w.heap.size) T x.trips) (hn : x.trips.length ≤ 12) :
    Calls Try.prog 40 #[.agg #[.slice A x.net.stops.length ca, .slice L x.net.lines.length cl, .slice T x.trips.length ct], .int .i64 l] w (RetTs (pkT x l x.trips.length) (stF x l x.trips.length) x.trips.length w) := by
  have H0 : Hid (TtBox w (w.alloc (.cells #[.slice A x.net.stops.length ca, .slice L x.net.lines.length cl, .slice T x.trips.length ct] 45)) w.heap.size x A ca L cl T ct) := Lib.hid (TtBox.box hA hL hT)
  have hz0 : w.heap.size + 1 ≤ (w.alloc (.cells #[.slice A x.net.stops.length ca, .slice L x.net.lines.length cl, .slice T x.trips.length ct] 45)).heap.size := by simp
  have hgr0 : w.heap.size < (w.alloc (.cells #[.slice A x.net.stops.length ca, .slice L x.net.lines.length cl, .slice T x.trips.length ct] 45)).heap.size := by simp
  have O0 : Hid (OwnT (w.alloc (.cells #[.slice A x.net.stops.length ca, .slice L x.net.lines.length cl, .slice T x.trips.length ct] 45)) (w.heap.size + 1) (.slice none 0 0) []) := Lib.hid OwnE.nil
  clear hA hL hT
  go_enter Try.func40, Try.ntmps40
  go_wp2_with fail
  generalize (w.alloc (.cells #[.slice A x.net.stops.length ca, .slice L x.net.lines.length cl, .slice T x.trips.length ct] 45)) = w0 at *
  obtain ⟨c0, c1, c2⟩ := H0.out.cells
  go_wp2_with fail
  clear c0 c1 c2
  go_loopw [5, 7, 11] (fun v _ i wr => ∃ k : Nat, k ≤ x.trips.length ∧ i = .int .i64 k ∧ OwnT wr (w.heap.size + 1) v (pkT x l k) ∧ Below (w.heap.size + 1) w0 wr) (fun _ _ i _ => x.trips.length - (intOf i).toNat)
  case atStart => exact ⟨0, Nat.zero_le _, rfl, O0.out, Below.refl _ _⟩
  case round =>
    obtain ⟨k, hk, rfl, ho, hb⟩ := hrel
    have O3 := Lib.hid ho
    have H3 := Lib.hid (H0.out.callB hb (Nat.lt_succ_self _))
    have HB := Lib.hid hb
    have hz3 : w.heap.size + 1 ≤ wr.heap.size := Nat.le_trans hz0 hb.size
    have hgr : w.heap.size < wr.heap.size := by omega
    have hpl := pkT_len x l k
    clear ho hb
    by_cases hlt : k < x.trips.length
    · obtain ⟨b, o, rfl, hbl, d0, d1, d2⟩ := I3sIn.at H3.out.trips hlt
      have hik : (k : Int) < (x.trips.length : Int) := by omega
      obtain ⟨y, hy⟩ : ∃ y, y = nth3 x.trips k := ⟨_, rfl⟩
      rw [← hy] at d0 d1 d2
      have HY3 := Lib.hid hy
      clear hy
      obtain ⟨ya, yb, yc⟩ := y
      simp only [] at d0 d1 d2
      have HBw : Hid (Below (w.heap.size + 1) w0 (wr.alloc (.cells #[.int .i64 ya, .int .i64 yb, .int .i64 yc] 77))) := Lib.hid (HB.out.alloc hz3 _)
      have O3w := Lib.hid (O3.out.alloc (.cells #[.int .i64 ya, .int .i64 yb, .int .i64 yc] 77))
      have hz3w : w.heap.size + 1 ≤ (wr.alloc (.cells #[.int .i64 ya, .int .i64 yb, .int .i64 yc] 77)).heap.size := by simp; omega
      by_cases t1 : yb = l
      · subst t1
        have HF : Hid (pkT x yb (k + 1) = pkT x yb k ++ [⟨ya, yb, yc⟩]) := Lib.hid (by rw [pkT_yes (by rw [← HY3.out]), ← HY3.out])
        go_wp2_with (at_builtin; refine wp_appT rfl _ _ rfl (w.heap.size + 1) _ (pkT x yb k) ⟨ya, yb, yc⟩ _ O3w.out rfl _ rfl (by simp) (by omega) (by omega) ?_; intro v' w' ho' hb'; have O6 := Lib.hid ho'; have HB6 := Lib.hid (HBw.out.trans hb'); clear ho' hb')
        go_roundw
        case rel => exact ⟨k + 1, by omega, by go_num, by rw [HF.out]; exact O6.out, HB6.out⟩
        case measure => simp [intOf]; omega
      · have HF : Hid (pkT x l (k + 1) = pkT x l k) := Lib.hid (pkT_no (by rw [← HY3.out]; exact t1))
        go_wp2_with fail
        go_roundw
        case rel => exact ⟨k + 1, by omega, by go_num, by rw [HF.out]; exact O3w.out, HBw.out⟩
        case measure => simp [intOf]; omega
    · obtain rfl : k = x.trips.length := by omega
      go_wp2_with fail
      refine (sortTrips_any (w.heap.size + 1) _ (pkT x l x.trips.length) _ O3.out hz3 (by omega)).mono ?_
      rintro e w5 ⟨rfl, ys, A5, c5, rfl, hp, hs, hi, hb5⟩
      have HI := Lib.hid hi
      have HB5 := Lib.hid hb5
      have HM := Lib.hid (And.intro (stF_of hp hs) hp)
      have hyl : ys.length ≤ x.trips.length := by rw [hp.length_eq]; exact hpl
      clear hi hb5 hp hs
      go_wp2_with fail
      go_ret
      exact ⟨ys, A5, c5, rfl, HM.out.1, HM.out.2, hyl, HI.out.mono (Zone.new_le (by omega) (Nat.le_refl _)), H3.out.bel.trans (HB5.out.mono (by omega))⟩

end Go.Proofs.Ytdiffepokiabkaa
