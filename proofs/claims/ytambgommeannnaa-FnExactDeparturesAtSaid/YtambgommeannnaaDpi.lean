/- DeparturesAt: the program. -/
import Derived.Test.YtambgommeannnaaDpp
import Derived.Test.YtambgommeannnaaApg
namespace Go.Proofs.Ytambgommeannnaa
open Go.ChangeShapes Go.WideShapes Go.ChangeAt Go.RowKit Go.PlainAid
set_option linter.unusedVariables false
set_option linter.unusedSimpArgs false

set_option maxRecDepth 100000 in
set_option maxHeartbeats 4000000 in
theorem implDepartures_any (x : TTD) (A L T : Option Addr) (ca cl ct : Nat) (s f : Int) (w : World) (hA : StrsIn w (Zone.below w.heap.size) A x.net.stops) (hL : LinesIn w (Zone.below w.heap.size) L x.net.lines) (hT : I3sIn w (Zone.below w.heap.size) T x.trips) (hx : FitsT x) :
    Calls Try.prog 26 #[.agg #[.slice A x.net.stops.length ca, .slice L x.net.lines.length cl, .slice T x.trips.length ct], .int .i64 s, .int .i64 f] w (RetDp (dpL x s f) (dpB x s f) w) := by
  have H0 : Hid (TtBox w (w.alloc (.cells #[.slice A x.net.stops.length ca, .slice L x.net.lines.length cl, .slice T x.trips.length ct] 49)) w.heap.size x A ca L cl T ct) := Lib.hid (TtBox.box hA hL hT)
  have hn := hx.trips
  have hm := hx.net.lines
  have hns := hx.net.stops
  have hz0 : w.heap.size + 1 ≤ (w.alloc (.cells #[.slice A x.net.stops.length ca, .slice L x.net.lines.length cl, .slice T x.trips.length ct] 49)).heap.size := by simp
  clear hA hL hT
  cases g1 : ttB x
  · have hcd : dpB x s f = false := by unfold dpB; rw [g1]; rfl
    have HN := Lib.hid (And.intro (dpL_no hcd) hcd)
    clear hcd
    go_enter Try.func26, Try.ntmps26
    go_wp2_with fail
    generalize (w.alloc (.cells #[.slice A x.net.stops.length ca, .slice L x.net.lines.length cl, .slice T x.trips.length ct] 49)) = w0 at *
    refine (isValidTimetable_any x _ _ _ _ _ _ _ H0.out.stops H0.out.lines H0.out.trips hx).mono ?_
    rintro e w1 ⟨rfl, hb1⟩
    have H1 := Lib.hid (H0.out.call hb1)
    have hz1 : w.heap.size + 1 ≤ w1.heap.size := Nat.le_trans hz0 hb1.size
    clear hb1
    obtain ⟨c0, c1, c2⟩ := H1.out.cells
    go_wp2_with fail
    go_ret2
    rw [HN.out.1, HN.out.2]
    exact ⟨none, 0, rfl, fun h => by simp at h, H1.out.bel⟩
  cases g2 : inB s 0 (x.net.stops.length - 1)
  · have hcd : dpB x s f = false := by unfold dpB; rw [g1, g2]; rfl
    have HN := Lib.hid (And.intro (dpL_no hcd) hcd)
    clear hcd
    go_enter Try.func26, Try.ntmps26
    go_wp2_with fail
    generalize (w.alloc (.cells #[.slice A x.net.stops.length ca, .slice L x.net.lines.length cl, .slice T x.trips.length ct] 49)) = w0 at *
    refine (isValidTimetable_any x _ _ _ _ _ _ _ H0.out.stops H0.out.lines H0.out.trips hx).mono ?_
    rintro e w1 ⟨rfl, hb1⟩
    have H1 := Lib.hid (H0.out.call hb1)
    have hz1 : w.heap.size + 1 ≤ w1.heap.size := Nat.le_trans hz0 hb1.size
    clear hb1
    obtain ⟨c0, c1, c2⟩ := H1.out.cells
    go_wp2_with fail
    refine (isStop_any x.net _ _ _ _ s _ hns).mono ?_
    rintro e w2 ⟨rfl, hb2⟩
    rw [g2]
    have H2 := Lib.hid (H1.out.call hb2)
    have hz2 : w.heap.size + 1 ≤ w2.heap.size := Nat.le_trans hz1 hb2.size
    clear hb2 c0 c1 c2
    obtain ⟨c0, c1, c2⟩ := H2.out.cells
    go_wp2_with fail
    go_ret2
    rw [HN.out.1, HN.out.2]
    exact ⟨none, 0, rfl, fun h => by simp at h, H2.out.bel⟩
  cases g3 : tmB f
  · have hcd : dpB x s f = false := by unfold dpB; rw [g1, g2, g3]; rfl
    have HN := Lib.hid (And.intro (dpL_no hcd) hcd)
    clear hcd
    go_enter Try.func26, Try.ntmps26
    go_wp2_with fail
    generalize (w.alloc (.cells #[.slice A x.net.stops.length ca, .slice L x.net.lines.length cl, .slice T x.trips.length ct] 49)) = w0 at *
    refine (isValidTimetable_any x _ _ _ _ _ _ _ H0.out.stops H0.out.lines H0.out.trips hx).mono ?_
    rintro e w1 ⟨rfl, hb1⟩
    have H1 := Lib.hid (H0.out.call hb1)
    have hz1 : w.heap.size + 1 ≤ w1.heap.size := Nat.le_trans hz0 hb1.size
    clear hb1
    obtain ⟨c0, c1, c2⟩ := H1.out.cells
    go_wp2_with fail
    refine (isStop_any x.net _ _ _ _ s _ hns).mono ?_
    rintro e w2 ⟨rfl, hb2⟩
    rw [g2]
    have H2 := Lib.hid (H1.out.call hb2)
    have hz2 : w.heap.size + 1 ≤ w2.heap.size := Nat.le_trans hz1 hb2.size
    clear hb2 c0 c1 c2
    obtain ⟨c0, c1, c2⟩ := H2.out.cells
    go_wp2_with (first | (go_at_call 89; refine (isValidTime_any _ _).mono ?_; rintro e wt ⟨rfl, rfl⟩))
    go_ret2
    rw [HN.out.1, HN.out.2]
    exact ⟨none, 0, rfl, fun h => by simp at h, H2.out.bel⟩
  have hcd : dpB x s f = true := by unfold dpB; rw [g1, g2, g3]; rfl
  have HY := Lib.hid (And.intro (dpL_yes hcd) hcd)
  have HTi : Hid (∀ k, k < x.trips.length → Ti x k) := Lib.hid (fun k hk => ti_of g1 hk)
  have hnet := (ttB_ok g1).1
  have ht12 := (ttB_ok g1).2.1
  clear hcd
  go_enter Try.func26, Try.ntmps26
  go_wp2_with fail
  generalize (w.alloc (.cells #[.slice A x.net.stops.length ca, .slice L x.net.lines.length cl, .slice T x.trips.length ct] 49)) = w0 at *
  refine (isValidTimetable_any x _ _ _ _ _ _ _ H0.out.stops H0.out.lines H0.out.trips hx).mono ?_
  rintro e w1 ⟨rfl, hb1⟩
  have H1 := Lib.hid (H0.out.call hb1)
  have hz1 : w.heap.size + 1 ≤ w1.heap.size := Nat.le_trans hz0 hb1.size
  clear hb1
  obtain ⟨c0, c1, c2⟩ := H1.out.cells
  go_wp2_with fail
  refine (isStop_any x.net _ _ _ _ s _ hns).mono ?_
  rintro e w2 ⟨rfl, hb2⟩
  rw [g2]
  have H2 := Lib.hid (H1.out.call hb2)
  have hz2 : w.heap.size + 1 ≤ w2.heap.size := Nat.le_trans hz1 hb2.size
  clear hb2 c0 c1 c2
  obtain ⟨c0, c1, c2⟩ := H2.out.cells
  go_wp2_with (first | (go_at_call 89; refine (isValidTime_any _ _).mono ?_; rintro e wt ⟨rfl, rfl⟩))
  clear c0 c1 c2
  go_loopw [8, 10, 11, 12, 31] (fun v _ _ _ i wr => ∃ k : Nat, k ≤ x.trips.length ∧ i = .int .i64 k ∧ OwnP wr w2.heap.size v (pkD x s f k) ∧ Below w2.heap.size w2 wr) (fun _ _ _ _ i _ => x.trips.length - (intOf i).toNat)
  case atStart => exact ⟨0, Nat.zero_le _, rfl, OwnE.nil, Below.refl _ _⟩
  case round =>
    obtain ⟨k, hk, rfl, ho, hb⟩ := hrel
    have O3 := Lib.hid ho
    have H3 := Lib.hid (H2.out.call hb)
    have HB := Lib.hid hb
    have hz3 := hb.size
    have hgr : w.heap.size < wr.heap.size := by omega
    have hpl := pkD_len x s f k
    clear ho hb
    obtain ⟨c0, c1, c2⟩ := H3.out.cells
    by_cases hlt : k < x.trips.length
    · obtain ⟨b, o, rfl, hbl, d0, d1, d2⟩ := I3sIn.at H3.out.trips hlt
      have hik : (k : Int) < (x.trips.length : Int) := by omega
      have hti := HTi.out k hlt
      obtain ⟨y, hy⟩ : ∃ y, y = nth3 x.trips k := ⟨_, rfl⟩
      have u1 := hti.b0
      have u2 := hti.b1
      have u3 := hti.c0
      have u4 := hti.c1
      rw [← hy] at d0 d1 d2 u1 u2 u3 u4
      have HY3 := Lib.hid hy
      have HLN : Hid (lnI x k = nthL x.net.lines y.b.toNat) := Lib.hid (by unfold lnI; rw [hy])
      have HAT : Hid (∀ q, atT x y q = atI x k q) := Lib.hid (fun q => by unfold atT atI lnI; rw [hy])
      clear hy hti
      have HBw : Hid (Below w2.heap.size w2 (wr.alloc (.cells #[.int .i64 y.a, .int .i64 y.b, .int .i64 y.c] 94))) := Lib.hid (HB.out.alloc hz3 _)
      have H3w : Hid (TtBox w (wr.alloc (.cells #[.int .i64 y.a, .int .i64 y.b, .int .i64 y.c] 94)) w.heap.size x A ca L cl (some ⟨b, o, none⟩) ct) := Lib.hid (H3.out.call (by go_grown))
      have O3w := Lib.hid (O3.out.alloc (.cells #[.int .i64 y.a, .int .i64 y.b, .int .i64 y.c] 94))
      have HW1 : Hid (Tr3 (wr.alloc (.cells #[.int .i64 y.a, .int .i64 y.b, .int .i64 y.c] 94)) wr.heap.size y) := Lib.hid ⟨by go_simp, by go_simp, by go_simp⟩
      have hzw : wr.heap.size < (wr.alloc (.cells #[.int .i64 y.a, .int .i64 y.b, .int .i64 y.c] 94)).heap.size := by simp
      have hz3w : w2.heap.size ≤ (wr.alloc (.cells #[.int .i64 y.a, .int .i64 y.b, .int .i64 y.c] 94)).heap.size := by simp; omega
      have HVB : Hid (∀ v : Value, OwnP wr w2.heap.size v (pkD x s f k) → ∀ c, wr.heap.size ≤ c → v.ownBlock ≠ some c) := Lib.hid (fun v hv c hc e => by have := (World.ownsRow.lt hv) c e; omega)
      have HRL : Hid ((nthL x.net.lines y.b.toNat).runs.length ≤ 5 ∧ (nthL x.net.lines y.b.toNat).stops.length ≤ 6) := Lib.hid (by
        have h := (netB_runs hnet (k := y.b.toNat) (by omega)).1
        unfold LineHd at h
        omega)
      go_wp2_with fail
      generalize (wr.alloc (.cells #[.int .i64 y.a, .int .i64 y.b, .int .i64 y.c] 94)) = wb at *
      refine (stopTimes_any x _ _ _ _ _ _ y _ H3w.out.stops H3w.out.lines H3w.out.trips hnet u1 u2 u3 u4 hm).mono ?_
      rintro e w4 ⟨A4, c4, rfl, hi4, hb4⟩
      have H4 := Lib.hid (H3w.out.call hb4)
      have O4 := Lib.hid (O3w.out.call hb4)
      have HB4 := Lib.hid (HBw.out.trans (hb4.mono (by omega)))
      have HI4 := Lib.hid hi4
      have HW4 := Lib.hid (HW1.out.below hb4 hzw)
      have hz4 := hb4.size
      obtain ⟨e0, e1, e2⟩ := HW4.out
      clear hb4 hi4 c0 c1 c2 d0 d1 d2
      obtain ⟨c0, c1, c2⟩ := H4.out.cells
      go_wp2_with fail
      refine (lineOf_any w.heap.size x _ _ _ _ _ _ y _ H4.out.lines0 (by omega) u1 u2 hm).mono ?_
      rintro e w5 ⟨S5, cs5, R5, cr5, rfl, hs5, _, _, _, hb5⟩
      have H5 := Lib.hid (H4.out.call hb5)
      have O5 := Lib.hid (O4.out.call hb5)
      have HB5 := Lib.hid (HB4.out.trans (hb5.mono (by omega)))
      have HI5 := Lib.hid (HI4.out.new_call hb5 (Nat.le_refl _))
      have HW5 := Lib.hid (HW4.out.below hb5 (by omega))
      have HS5 := Lib.hid hs5
      have hz5 := hb5.size
      have hfd : ∀ w', (Instr.field 113 (.agg #[.string (nthL x.net.lines y.b.toNat).name, .slice S5 (nthL x.net.lines y.b.toNat).stops.length cs5, .slice R5 (nthL x.net.lines y.b.toNat).runs.length cr5]) 1).run Try.prog w' = .ok (.slice S5 (nthL x.net.lines y.b.toNat).stops.length cs5) w' := fun _ => by kernel_rfl
      clear hb5 hs5 e0 e1 e2 c0 c1 c2
      obtain ⟨ln, hln⟩ : ∃ ln, ln = nthL x.net.lines y.b.toNat := ⟨_, rfl⟩
      rw [← hln] at HI5 HS5 HRL HLN hfd ⊢
      clear hln
      have HPL : Hid (plI x s k = ixI ln.stops s) := Lib.hid (by unfold plI; rw [HLN.out])
      have HPT : Hid ((pickI (atT x y) yesN (ln.runs.length + 1)).length = ln.runs.length + 1 ∧ ∀ q, q ≤ ln.runs.length → nth (pickI (atT x y) yesN (ln.runs.length + 1)) q = atI x k q) := Lib.hid ⟨all_len _ _, fun q hq => by rw [nth_all _ (by omega), HAT.out]⟩
      obtain ⟨tm, htm⟩ : ∃ tm, tm = pickI (atT x y) yesN (ln.runs.length + 1) := ⟨_, rfl⟩
      rw [← htm] at HI5 HPT ⊢
      clear htm
      have hrl := HRL.out.1
      have hsl := HRL.out.2
      have htl : tm.length ≤ 6 := by rw [HPT.out.1]; omega
      have HTL : Hid (tm.length = ln.runs.length + 1) := Lib.hid HPT.out.1
      have hwt : IntKind.i64.wrap ((tm.length : Int) - 1) = (ln.runs.length : Int) := by rw [HTL.out, IntWalk.i64_in _ (by omega)]; omega
      go_wp2_with fail
      clear hfd
      refine (slicesIndex_any _ _ _ s _ (IntsIn.at (HS5.out.mono (Zone.below_le (by omega)))) (by omega)).mono ?_
      rintro e w6 ⟨rfl, rfl⟩
      by_cases t1 : 0 ≤ ixI ln.stops s
      · obtain ⟨q, hq⟩ : ∃ q : Nat, ixI ln.stops s = q := ⟨(ixI ln.stops s).toNat, by omega⟩
        rw [hq] at HPL ⊢
        clear hq
        by_cases t2 : q < ln.runs.length
        · have hqi : (q : Int) < (ln.runs.length : Int) := by omega
          have hqt : q < tm.length := by rw [HTL.out]; omega
          have hqti : (q : Int) < (tm.length : Int) := by omega
          obtain ⟨b7, o7, rfl, hz7, _, hcc⟩ := HI5.out (by omega)
          have hc7 : w5.cell? ⟨b7, o7 + q, none⟩ = some (.int .i64 (nth tm q)) := hcc q hqt
          rw [HPT.out.2 q (by omega)] at hc7
          have HC7 := Lib.hid hc7
          have hb7 : b7 < w5.heap.size := Nat.lt_of_lt_of_le hz7.2 hz5
          have hb7' : wr.heap.size ≤ b7 := by have := hz7.1; omega
          clear hcc
          obtain ⟨tq, htq⟩ : ∃ tq, tq = atI x k q := ⟨_, rfl⟩
          rw [← htq] at hc7 HC7
          have HTQ := Lib.hid htq
          clear htq
          by_cases t3 : f ≤ tq
          · have HF : Hid (pkD x s f (k + 1) = pkD x s f k ++ [⟨tq, y.a⟩]) := Lib.hid (by
              rw [pkD_yes (dpK_yes HPL.out (by rw [HLN.out]; exact t2) (by rw [← HTQ.out]; exact t3))]
              unfold dpV
              rw [HPL.out, Int.toNat_natCast, ← HTQ.out, ← HY3.out])
            obtain ⟨e0, e1, e2⟩ := HW5.out
            have HE0 := Lib.hid e0
            clear hc7 e0 e1 e2
            have hc7 := HC7.out
            obtain ⟨i0, ii, iz0, iz1, iz2⟩ := info_parts Try.infoPair
            have hV := HVB.out _ O3.out
            have hwz : wr.heap.size < w5.heap.size := by omega
            have hz25 : w2.heap.size ≤ w5.heap.size := by omega
            have hD : ∀ w', Kp u8 w2.heap.size w5 w' → w'.cell? ⟨b7, o7 + q, none⟩ = some (.int .i64 tq) ∧ w'.cell? ⟨wr.heap.size, 0, none⟩ = some (.int .i64 y.a) := fun w' h => ⟨(h.2 b7 hb7 (hV b7 hb7') _).trans HC7.out, (h.2 wr.heap.size hwz (hV _ (Nat.le_refl _)) _).trans HE0.out⟩
            go_wp2_with fail
            clear hc7
            go_region_held3 (fun w' => Kp u8 w2.heap.size w5 w') (repeat' first | assumption | exact Kp.refl _ _ _ | exact hz25 | exact Nat.le_refl _ | (refine Kp.drew ?_) | (refine Kp.alloc ?_ ?_ _ ?_))
              (first
                | (refine step_apps (by rfl) _ _ 41 (by rfl) 16 Try.underlying41 ii iz0 iz1 iz2 rfl (by omega) (fun _ => rfl) encP_cell (by omega) w2.heap.size u8 (pkD x s f k) [⟨tq, y.a⟩] _ (OwnE.call O5.out (by (repeat' first | exact Below.refl _ _ | (refine bel_drew ?_) | (refine bel_alloc ?_ _) | exact Nat.le_refl _))) (by rfl) _ 0 1 1 (by rfl) (by rfl) (pairP_cells (by first | (go_simp; done) | (go_simp; rfl)) (by first | (go_simp; done) | (go_simp; rfl))) (by simp; omega) (by first | exact hz25 | (simp; omega)) ?_; intro v8 w8 ho8 hb8 hg8; have hk8 : Kp u8 w2.heap.size w5 w8 := Kp.grown (by assumption) hb8 hg8 (by first | exact Nat.le_refl _ | simp))
                | fail)
            have O8 := Lib.hid ho8
            have HB8 := Lib.hid (HB5.out.trans hk8.1)
            clear hD hk8 ho8 hb8 hg8
            go_wp2_with fail
            go_roundw
            case rel => exact ⟨k + 1, by omega, by go_num, by rw [HF.out]; exact O8.out, HB8.out⟩
            case measure => simp [intOf]; omega
          · have HF : Hid (pkD x s f (k + 1) = pkD x s f k) := Lib.hid (pkD_no (dpK_no (by rw [HPL.out, HLN.out]; rw [Int.toNat_natCast, ← HTQ.out]; intro h; omega)))
            go_wp2_with fail
            go_roundw
            case rel => exact ⟨k + 1, by omega, by go_num, by rw [HF.out]; exact O5.out, HB5.out⟩
            case measure => simp [intOf]; omega
        · have HF : Hid (pkD x s f (k + 1) = pkD x s f k) := Lib.hid (pkD_no (dpK_no (by rw [HPL.out, HLN.out]; intro h; omega)))
          have hqi : ¬ (q : Int) < (ln.runs.length : Int) := by omega
          go_wp2_with fail
          go_roundw
          case rel => exact ⟨k + 1, by omega, by go_num, by rw [HF.out]; exact O5.out, HB5.out⟩
          case measure => simp [intOf]; omega
      · have HF : Hid (pkD x s f (k + 1) = pkD x s f k) := Lib.hid (pkD_no (dpK_no (by rw [HPL.out, HLN.out]; intro h; omega)))
        go_wp2_with fail
        go_roundw
        case rel => exact ⟨k + 1, by omega, by go_num, by rw [HF.out]; exact O5.out, HB5.out⟩
        case measure => simp [intOf]; omega
    · obtain rfl : k = x.trips.length := by omega
      go_wp2_with fail
      refine (sortPairs_any w2.heap.size _ (pkD x s f x.trips.length) _ O3.out hz3 (by omega)).mono ?_
      rintro e w8 ⟨rfl, ys, A8, c8, rfl, hp, hs, hi, hb8⟩
      have HYS := Lib.hid (inD_of hp hs)
      have HI := Lib.hid hi
      have HB8 := Lib.hid (H3.out.bel.trans (hb8.mono (by omega)))
      clear hp hs hi hb8 c0 c1 c2
      go_wp2_with fail
      go_ret2
      rw [HY.out.2, HY.out.1, ← HYS.out]
      exact ⟨A8, c8, rfl, HI.out.mono (Zone.new_le (by omega) (Nat.le_refl _)), HB8.out⟩

end Go.Proofs.Ytambgommeannnaa
