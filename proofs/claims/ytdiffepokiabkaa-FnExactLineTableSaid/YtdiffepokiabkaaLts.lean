/- LineTable: the program. -/
import Derived.Test.YtdiffepokiabkaaLtr
import Derived.Test.YtdiffepokiabkaaTro
namespace Go.Proofs.Ytdiffepokiabkaa
open Go.ChangeShapes Go.WideShapes Go.ChangeAt Go.RowKit Go.PlainAid
set_option linter.unusedVariables false
set_option linter.unusedSimpArgs false

theorem nth3_mem {xs : List I3} {k : Nat} (h : k < xs.length) : nth3 xs k ∈ xs := by
  unfold nth3
  rw [List.getD_eq_getElem?_getD, List.getElem?_eq_getElem h]
  exact List.getElem_mem h
set_option maxRecDepth 100000 in
set_option maxHeartbeats 4000000 in
theorem implLineTable_any (x : TTD) (A L T : Option Addr) (ca cl ct : Nat) (l : Int) (w : World) (hA : StrsIn w (Zone.below w.heap.size) A x.net.stops) (hL : LinesIn w (Zone.below w.heap.size) L x.net.lines) (hT : I3sIn w (Zone.below w.heap.size) T x.trips) (hx : FitsT x) :
    Calls Try.prog 13 #[.agg #[.slice A x.net.stops.length ca, .slice L x.net.lines.length cl, .slice T x.trips.length ct], .int .i64 l] w (RetLt (ltT x l) (hwB x l) w) := by
  have H0 : Hid (TtBox w (w.alloc (.cells #[.slice A x.net.stops.length ca, .slice L x.net.lines.length cl, .slice T x.trips.length ct] 45)) w.heap.size x A ca L cl T ct) := Lib.hid (TtBox.box hA hL hT)
  have hn := hx.trips
  have hm := hx.net.lines
  have hz0 : w.heap.size + 1 ≤ (w.alloc (.cells #[.slice A x.net.stops.length ca, .slice L x.net.lines.length cl, .slice T x.trips.length ct] 45)).heap.size := by simp
  clear hA hL hT
  cases g1 : ttB x
  · have hcd : hwB x l = false := by unfold hwB; rw [g1]; rfl
    have HN := Lib.hid (And.intro (ltT_no hcd) hcd)
    clear hcd
    go_enter Try.func13, Try.ntmps13
    go_wp2_with fail
    generalize (w.alloc (.cells #[.slice A x.net.stops.length ca, .slice L x.net.lines.length cl, .slice T x.trips.length ct] 45)) = w0 at *
    refine (isValidTimetable_any x _ _ _ _ _ _ _ H0.out.stops H0.out.lines H0.out.trips hx).mono ?_
    rintro e w1 ⟨rfl, hb1⟩
    have H1 := Lib.hid (H0.out.call hb1)
    have hz1 : w.heap.size + 1 ≤ w1.heap.size := Nat.le_trans hz0 hb1.size
    clear hb1
    obtain ⟨c0, c1, c2⟩ := H1.out.cells
    go_wp2_with fail
    go_ret2
    rw [HN.out.2]
    exact retLtNil HN.out.1 H1.out.bel
  cases g2 : inB l 0 (x.net.lines.length - 1)
  · have hcd : hwB x l = false := by unfold hwB; rw [g1, g2]; rfl
    have HN := Lib.hid (And.intro (ltT_no hcd) hcd)
    clear hcd
    go_enter Try.func13, Try.ntmps13
    go_wp2_with fail
    generalize (w.alloc (.cells #[.slice A x.net.stops.length ca, .slice L x.net.lines.length cl, .slice T x.trips.length ct] 45)) = w0 at *
    refine (isValidTimetable_any x _ _ _ _ _ _ _ H0.out.stops H0.out.lines H0.out.trips hx).mono ?_
    rintro e w1 ⟨rfl, hb1⟩
    have H1 := Lib.hid (H0.out.call hb1)
    have hz1 : w.heap.size + 1 ≤ w1.heap.size := Nat.le_trans hz0 hb1.size
    clear hb1
    obtain ⟨c0, c1, c2⟩ := H1.out.cells
    go_wp2_with fail
    refine (isLine_any x.net _ _ _ _ l _ hm).mono ?_
    rintro e w2 ⟨rfl, hb2⟩
    rw [g2]
    have H2 := Lib.hid (H1.out.call hb2)
    have hz2 : w.heap.size + 1 ≤ w2.heap.size := Nat.le_trans hz1 hb2.size
    clear hb2 c0 c1 c2
    obtain ⟨c0, c1, c2⟩ := H2.out.cells
    go_wp2_with fail
    go_ret2
    rw [HN.out.2]
    exact retLtNil HN.out.1 H2.out.bel
  have hcd : hwB x l = true := by unfold hwB; rw [g1, g2]; rfl
  obtain ⟨_, n, rfl, hnl⟩ := hwB_ok hcd
  have HY := Lib.hid (And.intro (ltT_yes hcd) hcd)
  rw [Int.toNat_natCast] at HY
  have ht12 := (ttB_ok g1).2.1
  have hnet := (ttB_ok g1).1
  have HX := Lib.hid (lnX_of g1 hnl)
  have HG := Lib.hid g1
  have hni : (n : Int) < (x.net.lines.length : Int) := by omega
  have z2 : (⟨#[32]⟩ : ByteArray).size = 1 := rfl
  clear hcd
  go_enter Try.func13, Try.ntmps13
  go_wp2_with fail
  generalize (w.alloc (.cells #[.slice A x.net.stops.length ca, .slice L x.net.lines.length cl, .slice T x.trips.length ct] 45)) = w0 at *
  refine (isValidTimetable_any x _ _ _ _ _ _ _ H0.out.stops H0.out.lines H0.out.trips hx).mono ?_
  rintro e w1 ⟨rfl, hb1⟩
  have H1 := Lib.hid (H0.out.call hb1)
  have hz1 : w.heap.size + 1 ≤ w1.heap.size := Nat.le_trans hz0 hb1.size
  clear hb1
  obtain ⟨c0, c1, c2⟩ := H1.out.cells
  go_wp2_with fail
  refine (isLine_any x.net _ _ _ _ n _ hm).mono ?_
  rintro e w2 ⟨rfl, hb2⟩
  rw [g2]
  have H2 := Lib.hid (H1.out.call hb2)
  have hz2 : w.heap.size + 1 ≤ w2.heap.size := Nat.le_trans hz1 hb2.size
  clear hb2 c0 c1 c2
  obtain ⟨c0, c1, c2⟩ := H2.out.cells
  obtain ⟨b, o, rfl, hbl, S, cs, R, cr, k0, k1, k2, i1, i2, hcs, hcr⟩ := LinesIn.lineC H2.out.lines0 hnl
  have HS := Lib.hid i1
  clear i1 i2
  go_wp2_with fail
  clear c0 c1 c2 k0 k1 k2
  obtain ⟨D, hD⟩ : ∃ D, D = (nthL x.net.lines n).stops.length := ⟨_, rfl⟩
  have hD6 : D ≤ 6 := by rw [hD]; exact HX.out.len
  rw [← hD]
  have HD := Lib.hid hD
  clear hD
  go_loopw [6, 7, 8, 9, 11, 30] (fun v _ _ _ _ i wr => ∃ k : Nat, k ≤ D ∧ i = .int .i64 k ∧ OwnS wr w2.heap.size v (tabF x n k) ∧ Below w2.heap.size w2 wr) (fun _ _ _ _ _ i _ => D - (intOf i).toNat)
  case atStart => exact ⟨0, Nat.zero_le _, rfl, OwnE.nil, Below.refl _ _⟩
  case round =>
    obtain ⟨k, hk, rfl, ho, hb⟩ := hrel
    have O5 := Lib.hid ho
    have HB := Lib.hid hb
    have H5 := Lib.hid (H2.out.call hb)
    have hzr := hb.size
    clear ho hb
    by_cases hlt : k < D
    · have hkl : k < (nthL x.net.lines n).stops.length := by rw [← HD.out]; exact hlt
      obtain ⟨s0, s1, s2⟩ := HX.out.stop k hkl
      obtain ⟨m, hmm⟩ : ∃ m : Nat, nth (nthL x.net.lines n).stops k = m := ⟨(nth (nthL x.net.lines n).stops k).toNat, by omega⟩
      have hml : m < x.net.stops.length := by omega
      have hmi : (m : Int) < x.net.stops.length := by omega
      have HR0 : Hid (nthS x.net.stops m = rowS x n k 0) := Lib.hid (by unfold rowS; rw [hmm, Int.toNat_natCast])
      obtain ⟨bs', os', rfl, hbl1, hc1⟩ := (IntsIn.at HS.out).get hkl
      rw [hmm] at hc1
      replace hc1 : wr.cell? ⟨bs', os' + k, none⟩ = some (.int .i64 m) := ((HB.out.mono (by omega) : Below w.heap.size w2 wr).cell (p := ⟨bs', _, none⟩) hbl1).trans hc1
      obtain ⟨b2, o2, rfl, hbl2, hc2⟩ := H5.out.stops.get hml
      replace hc2 : wr.cell? ⟨b2, o2 + m, none⟩ = some (.string (nthS x.net.stops m)) := hc2
      have hik : (k : Int) < (D : Int) := by omega
      obtain ⟨c0, c1, c2⟩ := H5.out.cells
      clear hmm s0 s1 s2
      go_wp2_with fail
      rw [HR0.out]
      clear hc1 hc2
      refine (tripsOf_any x _ _ _ _ _ _ n _ H5.out.stops H5.out.lines H5.out.trips ht12).mono ?_
      rintro e w6 ⟨ys, A6, c6, rfl, hm6, hp6, hl6, hi6, hb6⟩
      have H6 := Lib.hid (H5.out.call hb6)
      have O6 := Lib.hid (O5.out.call hb6)
      have HB6 := Lib.hid (bel_call HB.out hb6)
      have HI6 := Lib.hid (hi6.mono (Zone.new_below (Nat.le_refl _)))
      have HM6 := Lib.hid hm6
      have HYS : Hid (∀ j, j < ys.length → ∃ i, i < x.trips.length ∧ nth3 ys j = nth3 x.trips i ∧ (nth3 ys j).b = n) := Lib.hid (fun j hj => pkT_mem' (hp6.mem_iff.1 (nth3_mem hj)))
      have HYL : Hid (ys.length = (stF x n x.trips.length).length) := Lib.hid (by rw [← hm6, List.length_map])
      have hz6 := hb6.size
      clear hm6 hp6 hi6 hb6 c0 c1 c2
      go_wp2_with fail
      go_loopw [9, 11, 45] (fun s _ i wz => ∃ j : Nat, j ≤ ys.length ∧ i = .int .i64 j ∧ s = .string (rowS x n k j) ∧ Below w6.heap.size w6 wz) (fun _ _ i _ => ys.length - (intOf i).toNat)
      case atStart => exact ⟨0, Nat.zero_le _, rfl, rfl, Below.refl _ _⟩
      case round =>
        obtain ⟨j, hj, rfl, rfl, hb⟩ := hrel
        have H7 := Lib.hid (H6.out.call hb)
        have HB7 := Lib.hid hb
        have hz7 := hb.size
        have HI7 := Lib.hid (HI6.out.at_below hb)
        clear hb
        by_cases hjl : j < ys.length
        · obtain ⟨b9, o9, rfl, hbl9, d0, d1, d2⟩ := I3sIn.at HI7.out hjl
          obtain ⟨i, hi, hyi, hyb⟩ := HYS.out j hjl
          have hst := nth_map HM6.out hjl
          obtain ⟨t0, t1⟩ := HX.out.time i k hi (by rw [← hyi]; exact hyb) hkl
          rw [← hyi] at t0 t1
          have hti := ti_of HG.out hi
          have u3 := hti.c0
          have u4 := hti.c1
          rw [← hyi] at u3 u4
          have HRW0 := Lib.hid (rowS_succ' x n k j)
          rw [hst] at HRW0
          obtain ⟨y, hy⟩ : ∃ y, y = nth3 ys j := ⟨_, rfl⟩
          rw [← hy] at d0 d1 d2 hyb t0 t1 u3 u4 HRW0
          have u1 : 0 ≤ y.b := by omega
          have u2 : y.b < x.net.lines.length := by omega
          have hij : (j : Int) < (ys.length : Int) := by omega
          have hat : atT x y k = y.c + sumI (nthL x.net.lines n).runs k := by unfold atT; rw [hyb, Int.toNat_natCast]
          have hrl : (nthL x.net.lines y.b.toNat).runs.length + 1 = D := by rw [hyb, Int.toNat_natCast, HD.out]; exact HX.out.runs
          rw [← hat] at t0 t1 HRW0
          have HRW := Lib.hid HRW0.out
          have HAT : Hid ((pickI (atT x y) yesN ((nthL x.net.lines y.b.toNat).runs.length + 1)).length = D ∧ nth (pickI (atT x y) yesN ((nthL x.net.lines y.b.toNat).runs.length + 1)) k = atT x y k) := Lib.hid ⟨by rw [all_len, hrl], nth_all _ (by omega)⟩
          have H7w : Hid (TtBox w (wr.alloc (.cells #[.int .i64 y.a, .int .i64 y.b, .int .i64 y.c] 77)) w.heap.size x (some ⟨b2, o2, none⟩) ca (some ⟨b, o, none⟩) cl T ct) := Lib.hid (H7.out.call (by go_grown))
          have HB7w : Hid (Below w6.heap.size w6 (wr.alloc (.cells #[.int .i64 y.a, .int .i64 y.b, .int .i64 y.c] 77))) := Lib.hid (bel_alloc HB7.out _)
          have HW1 : Hid (Tr3 (wr.alloc (.cells #[.int .i64 y.a, .int .i64 y.b, .int .i64 y.c] 77)) wr.heap.size y) := Lib.hid ⟨by go_simp, by go_simp, by go_simp⟩
          have hzw : wr.heap.size < (wr.alloc (.cells #[.int .i64 y.a, .int .i64 y.b, .int .i64 y.c] 77)).heap.size := by simp
          have hss := rowS_size HX.out hkl j
          have cl5 : (clk (atT x y k).toNat).size = 5 := clk_size5 _
          have hss2 : (rowS x n k j).size ≤ 99 := by omega
          obtain ⟨c0, c1, c2⟩ := H7.out.cells
          clear hst hy hyi hyb hat hrl HRW0 hti
          have hgr : w.heap.size < wr.heap.size := by omega
          go_wp2_with fail
          generalize (wr.alloc (.cells #[.int .i64 y.a, .int .i64 y.b, .int .i64 y.c] 77)) = wb at *
          refine (stopTimes_any x _ _ _ _ _ _ y _ H7w.out.stops H7w.out.lines H7w.out.trips hnet u1 u2 u3 u4 hm).mono ?_
          rintro e w8 ⟨A8, c8, rfl, hi8, hb8⟩
          have HB8 := Lib.hid (bel_call HB7w.out hb8)
          have HI8 := Lib.hid (hi8.to_below (Nat.le_refl _))
          obtain ⟨p, hp⟩ : ∃ p, p = pickI (atT x y) yesN ((nthL x.net.lines y.b.toNat).runs.length + 1) := ⟨_, rfl⟩
          rw [← hp] at HI8 HAT ⊢
          have hpl : k < p.length := by rw [HAT.out.1]; exact hlt
          obtain ⟨ba, oa, rfl, hbla, hca⟩ := (IntsIn.at HI8.out).get hpl
          rw [HAT.out.2] at hca
          have hkp : (k : Int) < (p.length : Int) := by omega
          clear hi8 hb8 hp c0 c1 c2 d0 d1 d2
          obtain ⟨s, hsx⟩ : ∃ s, s = rowS x n k j := ⟨_, rfl⟩
          rw [← hsx] at HRW hss2 ⊢
          obtain ⟨q, hcx⟩ : ∃ q, q = clk (atT x y k).toNat := ⟨_, rfl⟩
          rw [← hcx] at HRW cl5
          have HCX := Lib.hid hcx
          have p1 : ¬ 9223372036854775807 < 1 + q.size := by omega
          have p2 : ¬ 9223372036854775807 < s.size + (1 + q.size) := by omega
          clear hcx hsx hss cl5
          go_wp2_with fail
          refine (clockText_any _ _ t0 t1).mono ?_
          rintro e w9 ⟨rfl, hb9⟩
          rw [← HCX.out]
          have HB9 := Lib.hid (bel_call HB8.out hb9)
          clear hb9 hca
          go_wp2_with fail
          go_roundw
          case rel => exact ⟨j + 1, by omega, by go_num, by rw [← HRW.out], HB9.out⟩
          case measure => simp [intOf]; omega
        · obtain rfl : j = ys.length := by omega
          have HT1 : Hid (tabF x n (k + 1) = tabF x n k ++ [rowS x n k ys.length]) := Lib.hid (by rw [tabF, HYL.out])
          have O7 := Lib.hid (O6.out.call HB7.out)
          have htl := tabF_len x n k
          have hkd : (tabF x n k).length ≤ 16777216 := by omega
          have HB8 := Lib.hid (bel_call HB6.out HB7.out)
          clear htl
          go_wp2_with (at_builtin; refine wp_appS rfl _ _ rfl w2.heap.size _ (tabF x n k) (rowS x n k ys.length) _ O7.out rfl _ rfl (by simp) hkd (by omega) ?_; intro v' w' ho' hb'; have O8 := Lib.hid ho'; have HB9 := Lib.hid (HB8.out.trans hb'); clear ho' hb')
          go_roundw
          case rel => exact ⟨k + 1, by omega, by go_num, by rw [HT1.out]; exact O8.out, HB9.out⟩
          case measure => simp [intOf]; omega
    · obtain rfl : k = D := by omega
      go_wp2_with fail
      go_ret2
      rw [HY.out.2]
      exact O5.out.retLt (by rw [HY.out.1, HD.out]) (by omega) H5.out.bel

end Go.Proofs.Ytdiffepokiabkaa
