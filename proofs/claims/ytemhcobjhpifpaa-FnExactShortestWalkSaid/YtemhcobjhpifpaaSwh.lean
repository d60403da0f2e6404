/- impl.ShortestWalk: the walk. -/
import Derived.Test.YtemhcobjhpifpaaSwg
import Derived.BigQuiet
import Derived.Deep.RegionHeld3
namespace Go.Proofs.Ytemhcobjhpifpaa
open Go.ChangeShapes Go.WideShapes Go.ChangeAt Go.RowKit Go.PlainAid
set_option linter.unusedVariables false
set_option linter.unusedSimpArgs false

set_option maxRecDepth 100000 in
set_option maxHeartbeats 4000000 in
theorem implShortest_any (x : NetD) (A L V : Option Addr) (ca cl cv : Nat) (xs : List I3) (f t : Int) (w : World) (hA : StrsIn w (Zone.below w.heap.size) A x.stops) (hL : LinesIn w (Zone.below w.heap.size) L x.lines) (hV : I3sIn w (Zone.below w.heap.size) V xs) (hx : Fits x) (hv : xs.length ≤ 1048576) :
    Calls Try.prog 9 #[.agg #[.slice A x.stops.length ca, .slice L x.lines.length cl], .slice V xs.length cv, .int .i64 f, .int .i64 t] w (RetInts (swI x xs f t) (swB x xs f t) w) := by
  obtain ⟨W0, hW0⟩ : ∃ W0, W0 = ((w.alloc (.cells #[.slice A x.stops.length ca, .slice L x.lines.length cl] 34)).alloc (.cells #[.slice V xs.length cv] 36)).alloc (.cells #[.int .i64 t] 3) := ⟨_, rfl⟩
  have H0 : Hid (SwB w W0 w.heap.size x A ca L cl V cv xs t) := Lib.hid (by
    rw [hW0]
    have n0 : NetBox w (w.alloc (.cells #[.slice A x.stops.length ca, .slice L x.lines.length cl] 34)) w.heap.size x A ca L cl := NetBox.box hA hL
    refine ⟨(n0.call ((Below.refl _ _).alloc (Nat.le_refl _) _)).call ((Below.refl _ _).alloc (Nat.le_refl _) _), hV.at_below (by go_grown), by go_simp, by go_simp, by simp⟩)
  have hn := hx.stops
  have hm := hx.lines
  obtain ⟨i0, hi, hz0, hz1, hz2⟩ := info_parts Try.infoI
  clear hA hL hV
  obtain ⟨c0, c1⟩ := H0.out.net.cells
  have c5 := H0.out.c5
  have c7 := H0.out.c7
  go_enter Try.func9, Try.ntmps9
  go_upto_region 1 with fail
  rw [← hW0]
  clear hW0
  go_wp2_with fail
  refine (implWv_any x _ _ _ _ _ _ xs _ H0.out.net.stops H0.out.net.lines H0.out.listB hx hv).mono ?_
  rintro e w1 ⟨rfl, hb1⟩
  have H1 := Lib.hid (H0.out.call hb1)
  clear hb1 c0 c1 c5 c7
  obtain ⟨c0, c1⟩ := H1.out.net.cells
  have c5 := H1.out.c5
  have c7 := H1.out.c7
  cases g0 : wvB x xs
  · have HG := Lib.hid (swB_no (t := t) (.inl (wtB_no (s := f) (.inl g0))))
    have H := Lib.hid (swI_no HG.out)
    go_wp2_with fail
    go_ret2
    rw [HG.out]
    exact retNil H.out H1.out.net.bel
  go_wp2_with fail
  refine (isStop_any x _ _ _ _ f _ hn).mono ?_
  rintro e w2 ⟨rfl, hb2⟩
  have H2 := Lib.hid (H1.out.call hb2)
  clear hb2 c0 c1 c5 c7
  obtain ⟨c0, c1⟩ := H2.out.net.cells
  have c5 := H2.out.c5
  have c7 := H2.out.c7
  cases g1 : inB f 0 (x.stops.length - 1)
  · have HG := Lib.hid (swB_no (t := t) (.inl (wtB_no (xs := xs) (.inr g1))))
    have H := Lib.hid (swI_no HG.out)
    go_wp2_with fail
    go_ret2
    rw [HG.out]
    exact retNil H.out H2.out.net.bel
  go_wp2_with fail
  refine (isStop_any x _ _ _ _ t _ hn).mono ?_
  rintro e w3 ⟨rfl, hb3⟩
  have H3 := Lib.hid (H2.out.call hb3)
  clear hb3 c0 c1 c5 c7
  obtain ⟨c0, c1⟩ := H3.out.net.cells
  have c5 := H3.out.c5
  have c7 := H3.out.c7
  cases g2 : inB t 0 (x.stops.length - 1)
  · have HG := Lib.hid (swB_no (xs := xs) (f := f) (.inr (.inl g2)))
    have H := Lib.hid (swI_no HG.out)
    go_wp2_with fail
    go_ret2
    rw [HG.out]
    exact retNil H.out H3.out.net.bel
  have gt := wtB_yes g0 g1
  obtain ⟨hnet, hwk⟩ := wvB_ok g0
  have HWK := Lib.hid hwk.wks
  have h28 := inB_iff.1 (netB_ok hnet).stops
  have h2 : 2 ≤ x.stops.length := by omega
  have h8 : x.stops.length ≤ 8 := by omega
  have h0 : 0 < x.stops.length := by omega
  obtain ⟨j1, j2⟩ := inB_iff.1 g1
  obtain ⟨j3, j4⟩ := inB_iff.1 g2
  obtain ⟨a, rfl⟩ : ∃ a : Nat, f = a := ⟨f.toNat, by omega⟩
  obtain ⟨b, rfl⟩ : ∃ b : Nat, t = b := ⟨t.toNat, by omega⟩
  have ha : a < x.stops.length := by omega
  have hb : b < x.stops.length := by omega
  have hai : (a : Int) < (x.stops.length : Int) := by omega
  have hbi : (b : Int) < (x.stops.length : Int) := by omega
  have HY : Hid (0 ≤ fw xs x.stops.length a b → swB x xs a b = true) := Lib.hid (fun h => swB_yes gt g2 (by simpa using h))
  have HNo : Hid (fw xs x.stops.length a b < 0 → swB x xs a b = false) := Lib.hid (fun h => swB_no (.inr (.inr (by simpa using h))))
  have hbd := fw_bd HWK.out h8 (m := x.stops.length) (i := a) (j := b) (Nat.le_refl _) ha
  clear hnet hwk h28 g0 g1 g2 gt j1 j2 j3 j4
  go_wp2_with fail
  refine (walkTable_any x _ _ _ _ _ _ xs _ H3.out.listB h0 h8 hv HWK.out).mono ?_
  rintro e w4 ⟨G, rfl, hm4, hg4, hb4⟩
  have H4 := Lib.hid (H3.out.call hb4)
  have HM4 := Lib.hid hm4
  clear hb4 hm4 c0 c1 c5 c7
  obtain ⟨w5, hw5⟩ : ∃ w5, w5 = w4.alloc (.cells #[.slice (some ⟨G, 0, none⟩) x.stops.length x.stops.length] 58) := ⟨_, rfl⟩
  have HB5 : Hid (Below w4.heap.size w4 w5) := Lib.hid (by rw [hw5]; go_grown)
  have H5 : Hid (SwT w w5 w.heap.size G w4.heap.size x A ca L cl V cv xs b) := Lib.hid ⟨H4.out.call HB5.out, HM4.out.call HB5.out, by rw [hw5]; go_simp, by rw [hw5]; simp⟩
  go_wp2_with fail
  rw [← hw5]
  clear hw5
  have c10 := H5.out.c10
  have c7 := H5.out.box.c7
  have d1 := H5.out.mat.hd a ha
  have d2 := H5.out.mat.at' ha hb
  obtain ⟨d, hd⟩ : ∃ d, d = fw xs x.stops.length a b := ⟨_, rfl⟩
  have HD := Lib.hid hd
  rw [← hd] at hbd HY HNo d2
  clear hd
  by_cases hd0 : d < 0
  · have HG := Lib.hid (HNo.out hd0)
    have H := Lib.hid (swI_no HG.out)
    go_quiet (fail)
    go_wp2_with fail
    go_ret2
    rw [HG.out]
    exact retNil H.out (bel_drewN H5.out.box.net.bel _)
  have HG := Lib.hid (HY.out (by omega))
  have HR : Hid (swI x xs a b = iL (swL x.stops.length xs a b)) := Lib.hid (by have := swI_yes HG.out; simpa using this)
  go_quiet (fail)
  go_upto_region 7 with fail
  obtain ⟨w6, hw6⟩ : ∃ w6, w6 = w5.drewN nq := ⟨_, rfl⟩
  have H6 : Hid (SwT w w6 w.heap.size G w4.heap.size x A ca L cl V cv xs b) := Lib.hid (by rw [hw6]; exact H5.out.call (bel_drewN (Below.refl _ _) _))
  rw [← hw6]
  clear hw6 c10 c7 d1 d2
  have c0 := H6.out.box.net.cells.1
  have hlt6 : w.heap.size + 2 < w6.heap.size := H6.out.box.lt
  have hmk := fun W => run_make_n (P := Try.prog) 29 3 i0 _ Try.underlying29 hi hz0 x.stops.length 1 8 hz1 hz2 (by omega) (by omega) W
  have HF : Hid (∀ (wr : World) (k h : Nat), SwT w wr w.heap.size G w4.heap.size x A ca L cl V cv xs b → k < x.stops.length → h < x.stops.length → Calls Try.prog 28 #[.int .i64 (k : Nat), .int .i64 (h : Nat), .pointer (some ⟨w.heap.size + 1, 0, none⟩), .pointer (some ⟨w4.heap.size, 0, none⟩), .pointer (some ⟨w.heap.size + 1 + 1, 0, none⟩)] wr fun e w' => e = .returned (.bool (onwB x.stops.length xs b k h)) ∧ Below wr.heap.size wr w') := Lib.hid (fun wr k h H hk hh => onwF_any _ xs V cv G k h b _ _ _ wr H.box.listB HWK.out hv H.mat H.box.c5 H.c10 H.box.c7 H.l10 H.box.lt h8 hk hh hb)
  go_wp2_with fail
  clear c0
  go_loopw [53] (fun i wr => ∃ k : Nat, k ≤ x.stops.length ∧ i = .int .i64 k ∧ ArrI wr w6.heap.size x.stops.length (fun j => if j < k then -1 else 0) ∧ Below w6.heap.size w6 wr) (fun i _ => x.stops.length - (intOf i).toNat)
  case atStart => exact ⟨0, Nat.zero_le _, rfl, by (have h := (ArrI.made w6 x.stops.length 3); simpa using h), by have := (Below.refl w6.heap.size w6).alloc (Nat.le_refl _) (.cells (madeCells #[.int .i64 0] x.stops.length) 3); simpa using this⟩
  case round =>
    obtain ⟨k, hk, rfl, ha', hb'⟩ := hrel
    have HB := Lib.hid hb'
    by_cases hlt : k < x.stops.length
    · have hct := ha'.cells k hlt
      have hfr := ha'.free k
      have HS := Lib.hid ((ha'.set hlt (-1)).congr (G := fun j => if j < k + 1 then -1 else 0) (fun j hj => by by_cases e : j = k; (subst e; simp); (simp only [if_neg e]; by_cases e2 : j < k; (rw [if_pos e2, if_pos (by omega)]); (rw [if_neg e2, if_neg (by omega)]))))
      have hik : (k : Int) < (x.stops.length : Int) := by omega
      clear ha' hb'
      go_wp2_with fail
      go_roundw
      case rel => exact ⟨k + 1, by omega, by go_num, HS.out, HB.out.setCell (by simp) _⟩
      case measure => simp [intOf]; omega
    · obtain rfl : k = x.stops.length := by omega
      have H7 := Lib.hid (H6.out.call HB.out)
      have c7 := H7.out.box.c7
      have hct := ha'.cells b hb
      rw [if_pos hb] at hct
      have hfr := ha'.free b
      have HS : Hid (ArrI (wr.setCell ⟨w6.heap.size, b, none⟩ (.int .i64 0)) w6.heap.size x.stops.length (nth ((List.replicate x.stops.length (-1)).set b 0))) := Lib.hid ((ha'.set hb 0).congr (fun j hj => by
        by_cases e : j = b
        · subst e; simp only [if_true]; rw [nth_set_same _ (by simpa using hj)]
        · simp only [if_neg e]; rw [if_pos hj, nth_set_ne _ (fun g => e g.symm)]; unfold nth; rw [List.getD_eq_getElem?_getD, List.getElem?_replicate, if_pos hj]; rfl))
      have HB1 := Lib.hid (HB.out.setCell (p := ⟨w6.heap.size, b, none⟩) (Nat.le_refl _) (.int .i64 0))
      have hlt0 : w6.heap.size < wr.heap.size := ha'.lt
      have hne7 : w.heap.size + 2 ≠ w6.heap.size := by omega
      have c7' : (wr.setCell ⟨w6.heap.size, b, none⟩ (.int .i64 0)).cell? ⟨w.heap.size + 2, 0, none⟩ = some (.int .i64 (b : Nat)) := (H6.out.call HB1.out).box.c7
      clear ha' hb'
      go_wp2_with fail
      have hlt1 : w6.heap.size < (wr.setCell ⟨w6.heap.size, b, none⟩ (.int .i64 0)).heap.size := by simpa [World.setCell] using hlt0
      have HZ1' : Hid ((wr.setCell ⟨w6.heap.size, b, none⟩ (.int .i64 0)).heap.size = wr.heap.size) := Lib.hid (by simp)
      generalize hw1 : wr.setCell ⟨w6.heap.size, b, none⟩ (.int .i64 0) = w7 at *
      have HST : Hid (SwHd x.stops.length xs b w6.heap.size w6 x.stops.length (.slice (some ⟨w7.heap.size, 0, none⟩) 1 1) (w7.alloc (.cells #[.int .i64 (b : Int)] 3))) := Lib.hid
        ⟨_, _, _, _, [b], _, rfl, QueI.start b (by omega) (by omega), HS.out.call ((Below.refl _ _).alloc (Nat.le_refl _) _), BfN.start rfl hb, by
          have e : setN ((List.replicate x.stops.length (-1)).set b 0) = setN (List.replicate x.stops.length (-1)) + 1 := setN_set (by simpa using hb) (by unfold nth; rw [List.getD_eq_getElem?_getD, List.getElem?_replicate, if_pos hb]; decide) (by omega)
          rw [e, setN_rep]; simp; omega, Nat.le_refl _, HB1.out.alloc (by omega) _⟩
      clear hct hfr hw1 HS HB1 HB hlt0 c7 c7' H7
      go_loopg [14] (x.stops.length) (fun gk v wr => SwHd x.stops.length xs b w6.heap.size w6 gk v wr)
      case atStart => exact (by have h := HST.out; rw [HZ1'.out] at h; exact h)
      case round =>
        obtain ⟨g, o, m, c, q, ob, rfl, hq, hao, hbf, hct, hgk, hbl⟩ := hrel
        have HB2 := Lib.hid hbl
        have HQ := Lib.hid hq
        have HAO := Lib.hid hao
        have HBF := Lib.hid hbf
        have HCT := Lib.hid hct
        have hset := setN_le ob
        have hol := hbf.len
        have hgx : w6.heap.size < wr.heap.size := hao.lt
        have HOL := Lib.hid hol
        have H8 := Lib.hid (H6.out.call hbl)
        have c0 := H8.out.box.net.cells.1
        have c7 := H8.out.box.c7
        cases q with
        | nil =>
          have hn0 : m = 0 := hq.num
          subst hn0
          have HSO := Lib.hid hbf.steps
          have hba := (hbf.bnd a ha).2
          have hk0 := steps_some HWK.out hb HSO.out 30720 a ha (by rw [← HD.out]; omega) (by rw [← HD.out]; omega)
          obtain ⟨k0, hk0e⟩ : ∃ k0 : Nat, nth ob a = (k0 : Int) := ⟨(nth ob a).toNat, by omega⟩
          have hk08 : k0 ≤ 8 := by omega
          have HL : Hid (swI x xs a b = iL (a :: grF x.stops.length xs b ob k0 a)) := Lib.hid (by rw [HR.out, swL_gr HWK.out hb ha HSO.out (by rw [← HD.out]; omega) hk0e (by omega)])
          have HBN : Hid (∀ r, r < x.stops.length → -1 ≤ nth ob r ∧ nth ob r ≤ 8) := Lib.hid (fun r hr => by have := hbf.bnd r hr; omega)
          have HKE := Lib.hid hk0e
          clear hq hao hbf hct hol hk0 hba hset hk0e HQ HBF HCT hgk
          go_wp2_with fail
          obtain ⟨wo, rfl⟩ : ∃ wo : World, wo = wr := ⟨_, rfl⟩
          clear c0 c7
          go_loopw [16, 17] (fun v u wi => ∃ (e j : Nat) (P : List Nat), u = .int .i64 e ∧ e < x.stops.length ∧ nth ob e = (j : Int) ∧ a :: grF x.stops.length xs b ob k0 a = P ++ grF x.stops.length xs b ob j e ∧ P.length + j = k0 + 1 ∧ OwnI wi wo.heap.size v (iL P) ∧ Below wo.heap.size wo wi) (fun _ u _ => (nth ob (intOf u).toNat).toNat)
          case atStart => exact ⟨a, k0, [a], rfl, ha, HKE.out, rfl, by simp; omega, oneI wo a (Nat.le_refl _), (Below.refl _ _).alloc (Nat.le_refl _) _⟩
          case round =>
            obtain ⟨e, j, P, rfl, he, hj, hP, hPl, ho, hbo⟩ := hrel
            obtain ⟨A6, c6, e6, hc6, hc6', _⟩ := OwnE.ints ho
            subst e6
            have HP := Lib.hid hP
            have HJ := Lib.hid hj
            have HO := Lib.hid ho
            have HBO := Lib.hid hbo
            have H10 := Lib.hid (H8.out.call hbo)
            have HA10 := Lib.hid (HAO.out.call hbo)
            have c0 := H10.out.box.net.cells.1
            have c7 := H10.out.box.c7
            have hwz := hbo.size
            have HPL : Hid ((iL P).length ≤ 9) := Lib.hid (by unfold iL; rw [List.length_map]; omega)
            have hei : (e : Int) < (x.stops.length : Int) := by omega
            clear hP ho hbo
            by_cases het : e = b
            · have hj0 : j = 0 := by have := HSO.out.zero; rw [← het, hj] at this; omega
              have HFin : Hid (swI x xs a b = iL P) := Lib.hid (by rw [HL.out, HP.out, hj0]; show iL (P ++ []) = _; rw [List.append_nil])
              have HBF : Hid (Below w.heap.size w wr) := Lib.hid (H10.out.box.net.bel)
              have hwl : w.heap.size ≤ wo.heap.size := H8.out.box.net.bel.size
              subst het
              clear hj hj0
              go_wp2_with fail
              go_ret2
              rw [HG.out, HFin.out]
              exact OwnE.ret HO.out hwl HBF.out
            · have hnei : ¬ ((e : Int) = (b : Int)) := by omega
              have HNEB : Hid (((e : Int) != (b : Int)) = true) := Lib.hid (bne_iff_ne.2 hnei)
              have hjp : j ≠ 0 := fun h0 => het (HSO.out.only e he (by rw [hj, h0]; rfl))
              obtain ⟨j', rfl⟩ : ∃ j', j = j' + 1 := ⟨j - 1, by omega⟩
              have hjv : nth ob e = (j' : Int) + 1 := by rw [hj]; omega
              have HJV := Lib.hid hjv
              clear hj hjv hjp HJ
              go_wp2_with fail
              clear c0 c7
              obtain ⟨wp, rfl⟩ : ∃ wp : World, wp = wr := ⟨_, rfl⟩
              go_loopw [17, 113] (fun u i ww => ∃ k : Nat, u = .int .i64 e ∧ i = .int .i64 k ∧ k ≤ x.stops.length ∧ (∀ r, r < k → ¬ (nth ob r = nth ob e - 1 ∧ onwB x.stops.length xs b e r = true)) ∧ Below wp.heap.size wp ww) (fun _ i _ => x.stops.length - (intOf i).toNat)
              case atStart => exact ⟨0, rfl, rfl, Nat.zero_le _, fun r hr => absurd hr (Nat.not_lt_zero _), Below.refl _ _⟩
              case round =>
                obtain ⟨k, rfl, rfl, hk, hno, hbk⟩ := hrel
                have HNO := Lib.hid hno
                have HBK := Lib.hid hbk
                have H11 := Lib.hid (H10.out.call hbk)
                have HA11 := Lib.hid (HA10.out.call hbk)
                have hzk := hbk.size
                clear hno hbk
                by_cases hlt : k < x.stops.length
                · have hki : (k : Int) < (x.stops.length : Int) := by omega
                  obtain ⟨wq, rfl⟩ : ∃ wq : World, wq = wr := ⟨_, rfl⟩
                  have hS1 : ∀ w', Below wq.heap.size wq w' → w'.cell? ⟨w6.heap.size, k, none⟩ = some (.int .i64 (nth ob k)) := fun w' h => (HA11.out.call h).cells k hlt
                  have hS2 : ∀ w', Below wq.heap.size wq w' → w'.cell? ⟨w6.heap.size, e, none⟩ = some (.int .i64 (nth ob e)) := fun w' h => (HA11.out.call h).cells e he
                  obtain ⟨bk1, bk2⟩ := HBN.out k hlt
                  obtain ⟨be1, be2⟩ := HBN.out e he
                  obtain ⟨ve, hve⟩ : ∃ ve, ve = nth ob e := ⟨_, rfl⟩
                  have hwv : IntKind.i64.wrap (ve - 1) = (j' : Int) := by rw [hve, HJV.out, show (j' : Int) + 1 - 1 = j' by omega]; exact IntWalk.i64_in _ (by omega)
                  rw [← hve] at hS2
                  clear hve be1 be2
                  have HNX : Hid (¬ (nth ob k = nth ob e - 1 ∧ onwB x.stops.length xs b e k = true) → ∀ r, r < k + 1 → ¬ (nth ob r = nth ob e - 1 ∧ onwB x.stops.length xs b e r = true)) := Lib.hid (fun h r hr => by (by_cases er : r = k; (rw [er]; exact h); exact HNO.out r (by omega)))
                  obtain ⟨vk, hvk⟩ : ∃ vk, vk = nth ob k := ⟨_, rfl⟩
                  rw [← hvk] at hS1 bk1 bk2
                  have HVK := Lib.hid hvk
                  clear hvk
                  by_cases q1 : vk = (j' : Int)
                  · have hk1 : nth ob k = nth ob e - 1 := by rw [← HVK.out, q1, HJV.out]; omega
                    have HK1 := Lib.hid hk1
                    have HKJ : Hid (nth ob k = (j' : Int)) := Lib.hid (by rw [← HVK.out, q1])
                    clear hk1
                    subst q1
                    cases q2 : onwB x.stops.length xs b e k
                    · have HN2 := Lib.hid (HNX.out (fun h => by rw [q2] at h; exact absurd h.2 (by simp)))
                      go_wp2_with fail
                      go_region_held3 (fun w' => Below wq.heap.size wq w') (repeat' first | assumption | exact Nat.le_refl _ | exact Below.refl _ _ | (refine bel_drew ?_) | (refine bel_alloc ?_ _) | (refine bel_set ?_ ?_ _))
                      (first
                        | (go_at_call 28; have hq := HF.out _ e k (H11.out.call ‹Below wq.heap.size wq _›) he hlt; rw [q2] at hq; refine hq.mono ?_; rintro er w5 ⟨rfl, hb5⟩; have hB5 := bel_call ‹Below wq.heap.size wq _› hb5; clear hb5 hq))
                      all_goals
                        have HB5 := Lib.hid (HBK.out.trans (hB5.mono hzk))
                        clear hB5 hS1 hS2
                        go_wp2_with fail
                        first
                          | rw [HNEB.out]
                          | simp only [HNEB.out]
                        go_roundw
                        case rel => exact ⟨k + 1, rfl, by go_num, by omega, HN2.out, HB5.out⟩
                        case measure => simp [intOf]; omega
                    · have HGR : Hid (grF x.stops.length xs b ob (j' + 1) e = k :: grF x.stops.length xs b ob j' k) := Lib.hid (grF_step hlt HK1.out q2 HNO.out)
                      have HPN : Hid (a :: grF x.stops.length xs b ob k0 a = (P ++ [k]) ++ grF x.stops.length xs b ob j' k) := Lib.hid (by rw [HP.out, HGR.out]; simp)
                      have HME : Hid ((nth ob k).toNat < (nth ob e).toNat) := Lib.hid (by rw [HKJ.out, HJV.out]; omega)
                      go_wp2_with fail
                      go_region_held3 (fun w' => Below wq.heap.size wq w') (repeat' first | assumption | exact Nat.le_refl _ | exact Below.refl _ _ | (refine bel_drew ?_) | (refine bel_alloc ?_ _) | (refine bel_set ?_ ?_ _))
                      (first
                        | (go_at_call 28; have hq := HF.out _ e k (H11.out.call ‹Below wq.heap.size wq _›) he hlt; rw [q2] at hq; refine hq.mono ?_; rintro er w5 ⟨rfl, hb5⟩; have hB5 := bel_call ‹Below wq.heap.size wq _› hb5; clear hb5 hq))
                      all_goals
                        have HB5 := Lib.hid (HBK.out.trans (hB5.mono hzk))
                        have HO6 := Lib.hid (HO.out.call HB5.out)
                        have hz6 : wo.heap.size ≤ w5.heap.size := by have := HB5.out.size; omega
                        have HBW := Lib.hid (HBO.out.trans (HB5.out.mono hwz))
                        have hlw : (iL P).length ≤ 16777216 := by have := HPL.out; omega
                        clear hB5 hS1 hS2
                        go_wp2_with (at_builtin; refine wp_appI rfl _ _ rfl wo.heap.size _ (iL P) (k : Int) _ HO6.out rfl _ rfl (by simp) hlw hz6 ?_; intro v' w' ho' hb'; have HO7 := Lib.hid ho'; have HB7 := Lib.hid (HBW.out.trans hb'); clear ho' hb')
                        go_roundw
                        case rel => exact ⟨k, j', P ++ [k], rfl, hlt, HKJ.out, HPN.out, by simp; omega, by rw [iL_app2]; exact HO7.out, HB7.out⟩
                        case measure => simpa [intOf] using HME.out
                  · have HN2 := Lib.hid (HNX.out (fun h => q1 (by rw [HVK.out, h.1, HJV.out]; omega)))
                    have q1' : (vk == (j' : Int)) = false := by simp [q1]
                    have hs1 := hS1 wq (Below.refl _ _)
                    have hs2 := hS2 wq (Below.refl _ _)
                    clear hS1 hS2
                    go_wp2_with fail
                    go_quiet (fail)
                    have HB5 : Hid (Below wp.heap.size wp (wq.drewN nq)) := Lib.hid (bel_drewN HBK.out _)
                    go_wp2_with fail
                    go_roundw
                    case rel => exact ⟨k + 1, rfl, by go_num, by omega, HN2.out, HB5.out⟩
                    case measure => simp [intOf]; omega
                · have hkn : k = x.stops.length := by omega
                  exact absurd (gr_none HSO.out he (by rw [HJV.out]; omega) (by have := HNO.out; rw [hkn] at this; exact this)) id
        | cons h l =>
          obtain ⟨hn0, hnl, hhd⟩ := hq.head
          have hni : (0 : Int) < (m : Int) := by omega
          obtain ⟨hhs, hh0⟩ := hbf.inq h (by simp)
          have hnle : m ≤ 8 := by simp only [List.length_cons] at hct; omega
          have HST3 : Hid (SwSt x.stops.length xs b w6.heap.size w6 gk (fun u => u < 0 ∧ onw x.stops.length xs b u h) h (.slice (some ⟨g, o, none⟩) m c) wr) := Lib.hid ⟨g, o, m, c, l, ob, rfl, hq, hao, hbf.skip (fun u _ hu => absurd hu.1 (Nat.not_lt_zero _)), by simpa using hct, hbl⟩
          clear hq hao hbf hct hol hset hnl
          go_wp2_with fail
          clear hhd c0 c7
          go_loopw [14, 73] (fun v i wi => ∃ k : Nat, k ≤ x.stops.length ∧ i = .int .i64 k ∧ SwSt x.stops.length xs b w6.heap.size w6 gk (fun u => u < k ∧ onw x.stops.length xs b u h) h v wi) (fun _ i _ => x.stops.length - (intOf i).toNat)
          case atStart => exact ⟨0, Nat.zero_le _, rfl, HST3.out⟩
          case round =>
            obtain ⟨k, hk, rfl, hst⟩ := hrel
            have HST4 := Lib.hid hst
            obtain ⟨g1, o1, m1, c1, l1, ob1, rfl, hq1, hao1, hbf1, hct1, hb1⟩ := hst
            have H9 := Lib.hid (H6.out.call hb1)
            by_cases hlt : k < x.stops.length
            · have hki : (k : Int) < (x.stops.length : Int) := by omega
              have hhi : (h : Int) < (x.stops.length : Int) := by omega
              have d1 := hao1.cells k hlt
              have d2 := hao1.cells h hhs
              have d3 := hao1.free k
              have hset := setN_le ob1
              have hol1 := hbf1.len
              have hb0 := hbf1.bnd h hhs
              have hz2 := hao1.lt
              obtain ⟨hm0, hq0, d4⟩ := hq1.head
              clear hq0
              have hmi : (0 : Int) < (m1 : Int) := by omega
              have hqn := hq1.num
              have HAO1 := Lib.hid hao1
              have HBF1 := Lib.hid hbf1
              have HQ1 := Lib.hid hq1
              have HB3 := Lib.hid hb1
              have HOL1 := Lib.hid hol1
              have hn2 : m1 ≤ 8 := by simp only [List.length_cons] at hqn; omega
              have hc28 : nth ob1 h ≤ 8 := by omega
              have HC1 := Lib.hid hct1
              have hcall := HF.out wr k h H9.out hlt hhs
              clear hao1 hbf1 hq1 hb1 hqn hct1 hset hol1 hb0
              by_cases t1 : nth ob1 k < 0
              · cases q2 : onwB x.stops.length xs b k h
                · rw [q2] at hcall
                  have HCL := Lib.hid hcall
                  have HSK : Hid (SwSt x.stops.length xs b w6.heap.size w6 gk (fun u => u < k + 1 ∧ onw x.stops.length xs b u h) h (.slice (some ⟨g1, o1, none⟩) m1 c1) wr) := Lib.hid (HST4.out.skip (fun u hu hd => by
                    by_cases e : u = k
                    · subst e; exact absurd (decide_eq_true hd.2) (by unfold onwB at q2; rw [q2]; simp)
                    · exact ⟨by omega, hd.2⟩))
                  clear hcall q2
                  go_wp2_with fail
                  refine HCL.out.mono ?_
                  rintro e w9 ⟨rfl, hb9⟩
                  have HS9 := Lib.hid (HSK.out.call hb9)
                  clear hb9
                  go_wp2_with fail
                  go_roundw
                  case rel => exact ⟨k + 1, by omega, by go_num, HS9.out⟩
                  case measure => simp [intOf]; omega
                · rw [q2] at hcall
                  have HCL := Lib.hid hcall
                  have HE : Hid (onw x.stops.length xs b k h) := Lib.hid (of_decide_eq_true q2)
                  clear hcall q2
                  go_wp2_with fail
                  refine HCL.out.mono ?_
                  rintro e w9 ⟨rfl, hb9⟩
                  have hAO9 := HAO1.out.call hb9
                  have hQ9 := HQ1.out.call hb9
                  have hB9 := HB3.out.trans (hb9.mono (by omega))
                  have hz9 := hb9.size
                  clear hb9 d1 d2 d3 d4
                  have d1 := hAO9.cells k hlt
                  have d2 := hAO9.cells h hhs
                  have d3 := hAO9.free k
                  obtain ⟨_, hq0, d4⟩ := hQ9.head
                  clear hq0
                  have HSX := Lib.hid (hQ9.setX k (.int .i64 (nth ob1 h + 1)))
                  have HAX := Lib.hid (hAO9.put HOL1.out hlt (nth ob1 h + 1))
                  have HBX := Lib.hid (hB9.setCell (p := ⟨w6.heap.size, k, none⟩) (Nat.le_refl _) (.int .i64 (nth ob1 h + 1)))
                  have HPX : Hid (BfN x.stops.length (fun u a => onw x.stops.length xs b a u) b (ob1.set k (nth ob1 h + 1)) (h :: l1 ++ [k]) (fun u => u < k + 1 ∧ onw x.stops.length xs b u h)) := Lib.hid (HBF1.out.put hlt t1 HE.out (fun u hu => by
                    by_cases e : u = k
                    · exact .inr e
                    · exact .inl ⟨by omega, hu.2⟩))
                  have HNX := Lib.hid (setN_set (v := nth ob1 h + 1) (by rw [HOL1.out]; exact hlt) t1 (by have := (HBF1.out.inq h (by simp)).2; omega))
                  have hzx : w6.heap.size < (w9.setCell ⟨w6.heap.size, k, none⟩ (.int .i64 (nth ob1 h + 1))).heap.size := by simp; omega
                  have hb0 := (HBF1.out.inq h (by simp)).2
                  clear hAO9 hQ9 hB9
                  go_wp2_with (at_builtin; refine wp_appQ rfl _ _ rfl w6.heap.size w6.heap.size g1 o1 m1 c1 (h :: l1) k _ HSX.out rfl _ rfl (by simp) (by omega) (Nat.le_of_lt hzx) hzx ?_; intro g3 o3 c3 w3 hq3 hb3 hs3 hz3; have HQ3 := Lib.hid hq3; have HB5 := Lib.hid (HBX.out.trans hb3); have HAX3 := Lib.hid (HAX.out.same hs3 hz3); clear hq3 hb3 hs3 hz3)
                  go_roundw
                  case rel => exact ⟨k + 1, by omega, by go_num, ⟨g3, o3, _, c3, l1 ++ [k], _, rfl, HQ3.out, HAX3.out, HPX.out, by rw [HNX.out, List.length_append]; have := HC1.out; simp; omega, HB5.out⟩⟩
                  case measure => simp [intOf]; omega
              · have HSK : Hid (SwSt x.stops.length xs b w6.heap.size w6 gk (fun u => u < k + 1 ∧ onw x.stops.length xs b u h) h (.slice (some ⟨g1, o1, none⟩) m1 c1) wr) := Lib.hid ⟨g1, o1, m1, c1, l1, ob1, rfl, HQ1.out, HAO1.out, HBF1.out.skip (fun u hu hd => by
                  by_cases e : u = k
                  · subst e; exact .inr (by omega)
                  · exact .inl ⟨by omega, hd.2⟩), HC1.out, HB3.out⟩
                clear hcall
                go_wp2_with fail
                go_roundw
                case rel => exact ⟨k + 1, by omega, by go_num, HSK.out⟩
                case measure => simp [intOf]; omega
            · obtain rfl : k = x.stops.length := by omega
              have hset := setN_le ob1
              have hol1 := hbf1.len
              have HST7 : Hid (∀ o2 n2 c2, QueI wr w6.heap.size w6.heap.size g1 o2 n2 c2 l1 → SwHd x.stops.length xs b w6.heap.size w6 (gk - 1) (.slice (some ⟨g1, o2, none⟩) n2 c2) wr) := Lib.hid (fun o2 n2 c2 hq => ⟨g1, o2, n2, c2, l1, ob1, rfl, hq, hao1, (hbf1.skip (D' := fun u => onw x.stops.length xs b u h) (fun u hu hd => .inl ⟨hu, hd⟩)).pop, by omega, by omega, hb1⟩)
              have hgk1 : gk - 1 < gk := by omega
              have hn1 := hq1.head.1
              have hn1i : (1 : Int) ≤ (m1 : Int) := by omega
              by_cases hc1 : c1 = 1
              · subst hc1
                obtain ⟨hl1', rfl, hqt⟩ := hq1.tail1 rfl
                have HQT := Lib.hid hqt
                clear hqt hq1 hao1 hbf1 hct1 hb1 hset hol1 hl1'
                go_wp2_with fail
                go_roundg (gk - 1)
                case measure => exact hgk1
                case rel => exact HST7.out _ _ _ HQT.out
              · have HQT := Lib.hid (hq1.tail hc1)
                clear hq1 hao1 hbf1 hct1 hb1 hset hol1
                go_wp2_with fail
                go_roundg (gk - 1)
                case measure => exact hgk1
                case rel => exact HST7.out _ _ _ HQT.out
end Go.Proofs.Ytemhcobjhpifpaa
