/- The text of a network: the reference. -/
import Derived.Test.YtdiffepokiabkaaDoorFma
namespace Go.Proofs.YtdiffepokiabkaaDoor
open Go.ChangeShapes Go.WideShapes Go.ChangeAt Go.RowKit Go.PlainAid
set_option linter.unusedVariables false
set_option linter.unusedSimpArgs false

set_option maxRecDepth 100000 in
set_option maxHeartbeats 4000000 in
theorem l6Network_any (x : NetD) (A L : Option Addr) (ca cl : Nat) (w : World) (hA : StrsIn w (Zone.below w.heap.size) A x.stops) (hL : LinesIn w (Zone.below w.heap.size) L x.lines) (hx : Fits x) (hg : netB x = true) :
    Calls Tryd.prog 87 #[.agg #[.slice A x.stops.length ca, .slice L x.lines.length cl]] w fun e w' => e = .returned (.string (netT x)) ∧ Below w.heap.size w w' := by
  have H0 : Hid (NetBox w (w.alloc (.cells #[.slice A x.stops.length ca, .slice L x.lines.length cl] 25)) w.heap.size x A ca L cl) := Lib.hid (NetBox.box hA hL)
  have HX := Lib.hid (ntX_of hg)
  have z1 : (⟨#[115, 116, 111, 112, 32]⟩ : ByteArray).size = 5 := rfl
  have z2 : (⟨#[10]⟩ : ByteArray).size = 1 := rfl
  have z3 : (⟨#[108, 105, 110, 101, 32]⟩ : ByteArray).size = 5 := rfl
  have z4 : (⟨#[32]⟩ : ByteArray).size = 1 := rfl
  clear hA hL hg
  go_enter Tryd.func87, Tryd.ntmps87
  go_wp2_with fail
  generalize (w.alloc (.cells #[.slice A x.stops.length ca, .slice L x.lines.length cl] 25)) = w0 at *
  have J0 : Hid ((⟨#[]⟩ : ByteArray) = stT x 0) := Lib.hid rfl
  go_loopw [3, 4] (fun s j wr => ∃ k : Nat, k ≤ x.stops.length ∧ j = .int .i64 k ∧ s = .string (stT x k) ∧ Below w0.heap.size w0 wr) (fun _ j _ => x.stops.length - (intOf j).toNat)
  case atStart => exact ⟨0, Nat.zero_le _, rfl, rfl, Below.refl _ _⟩
  case round =>
    obtain ⟨k, hk, rfl, rfl, hb⟩ := hrel
    have H1 := Lib.hid (H0.out.call hb)
    have HB := Lib.hid hb
    clear hb
    by_cases hlt : k < x.stops.length
    · have hss := (stT_size HX.out k hk).2
      have hns := HX.out.ns
      have hnm := HX.out.stop k hlt
      obtain ⟨b, o, rfl, hbl, hc0⟩ := H1.out.stops.get hlt
      have hc : wr.cell? ⟨b, o + k, none⟩ = some (.string (nthS x.stops k)) := hc0
      obtain ⟨c0, c1⟩ := H1.out.cells
      have hik : (k : Int) < x.stops.length := by omega
      have HS := Lib.hid (stT_succ x k)
      clear hc0
      go_wp2_with fail
      go_roundw
      case rel => exact ⟨k + 1, by omega, by go_num, by rw [← HS.out], by repeat (first | exact HB.out | refine bel_drew ?_)⟩
      case measure => simp [intOf]; omega
    · obtain rfl : k = x.stops.length := by omega
      obtain ⟨c0, c1⟩ := H1.out.cells
      go_wp2_with fail
      clear c0 c1
      have J1 : Hid (stT x x.stops.length = lnT x 0) := Lib.hid rfl
      obtain ⟨wa, rfl⟩ : ∃ wa : World, wa = wr := ⟨_, rfl⟩
      go_loopw [3, 5, 6, 7] (fun s j _ _ wr => ∃ i : Nat, i ≤ x.lines.length ∧ j = .int .i64 i ∧ s = .string (lnT x i) ∧ Below wa.heap.size wa wr) (fun _ j _ _ _ => x.lines.length - (intOf j).toNat)
      case atStart => exact ⟨0, Nat.zero_le _, rfl, by rw [J1.out], Below.refl _ _⟩
      case round =>
        obtain ⟨i, hi, rfl, rfl, hb⟩ := hrel
        have H2 := Lib.hid (H1.out.call hb)
        have HB2 := Lib.hid hb
        clear hb
        by_cases hlt : i < x.lines.length
        · have hls := (lnT_size HX.out i hi).2
          have hln := HX.out.nl
          have HY := Lib.hid (HX.out.line i hlt)
          have hyn := HY.out.name
          obtain ⟨b, o, rfl, hbl, S, cs, R, cr, hc0, hc1, hc2, hi1, hi2, hcs, hcr⟩ := LinesIn.lineC H2.out.lines hlt
          have HI1 := Lib.hid hi1
          have HI2 := Lib.hid hi2
          obtain ⟨c0, c1⟩ := H2.out.cells
          have hik : (i : Int) < x.lines.length := by omega
          have hz := H2.out.lt
          have W2B : Hid (Below wr.heap.size wr (wr.alloc (.cells #[.string (nthL x.lines i).name, .slice S (nthL x.lines i).stops.length cs, .slice R (nthL x.lines i).runs.length cr] 80))) := Lib.hid (by go_grown)
          have W2L : Hid (Lin3 (wr.alloc (.cells #[.string (nthL x.lines i).name, .slice S (nthL x.lines i).stops.length cs, .slice R (nthL x.lines i).runs.length cr] 80)) wr.heap.size (nthL x.lines i) S cs R cr) := Lib.hid ⟨by go_simp, by go_simp, by go_simp⟩
          have hz2 : wr.heap.size < (wr.alloc (.cells #[.string (nthL x.lines i).name, .slice S (nthL x.lines i).stops.length cs, .slice R (nthL x.lines i).runs.length cr] 80)).heap.size := by simp
          clear hi1 hi2
          go_wp2_with fail
          have HB3 := Lib.hid (bel_call HB2.out W2B.out)
          have H3 := Lib.hid (H2.out.call W2B.out)
          clear hc0 hc1 hc2 c0 c1
          generalize (wr.alloc (.cells #[.string (nthL x.lines i).name, .slice S (nthL x.lines i).stops.length cs, .slice R (nthL x.lines i).runs.length cr] 80)) = wb at *
          generalize hyy : nthL x.lines i = y at *
          have HYY := Lib.hid hyy
          clear hyy
          obtain ⟨s0, hs0⟩ : ∃ s0, s0 = lnT x i ++ ⟨#[108, 105, 110, 101, 32]⟩ ++ y.name := ⟨_, rfl⟩
          have hs0z : s0.size ≤ 600 := by rw [hs0, ByteArray.size_append, ByteArray.size_append, z3]; omega
          have HS0 := Lib.hid hs0
          rw [← hs0]
          clear hs0
          have J2 : Hid (s0 = wdT x y s0 0) := Lib.hid rfl
          obtain ⟨wi, rfl⟩ : ∃ wi : World, wi = wr := ⟨_, rfl⟩
          go_loopw [3, 7] (fun s j wc => ∃ k : Nat, k ≤ y.stops.length ∧ j = .int .i64 k ∧ s = .string (wdT x y s0 k) ∧ Below wb.heap.size wb wc) (fun _ j _ => y.stops.length - (intOf j).toNat)
          case atStart => exact ⟨0, Nat.zero_le _, rfl, by rw [← J2.out], Below.refl _ _⟩
          case round =>
            obtain ⟨k, hk, rfl, rfl, hbc⟩ := hrel
            have HB4 := Lib.hid hbc
            have H4 := Lib.hid (H3.out.call hbc)
            have HL4 := Lib.hid (W2L.out.below hbc hz2)
            have hzc := hbc.size
            clear hbc
            obtain ⟨l0, l1, l2⟩ := HL4.out
            have hwz := (wdT_size HY.out s0 k hk).2
            have hyl := HY.out.len
            have hwz2 : (wdT x y s0 k).size ≤ 800 := by omega
            clear hwz
            by_cases hlk : k < y.stops.length
            · obtain ⟨m0, m1, m2⟩ := HY.out.stop k hlk
              obtain ⟨m, hmm⟩ : ∃ m : Nat, nth y.stops k = m := ⟨(nth y.stops k).toNat, by omega⟩
              have hml : m < x.stops.length := by omega
              have hmi : (m : Int) < x.stops.length := by omega
              have hsn : nthS x.stops m = sN x y k := by unfold sN; rw [hmm]; rfl
              obtain ⟨b1, o1, rfl, hbl1, hd1⟩ := (IntsIn.at HI1.out).get hlk
              rw [hmm] at hd1
              obtain ⟨b2, o2, rfl, hbl2, hd2⟩ := H2.out.stops.get hml
              replace hd2 : wi.cell? ⟨b2, o2 + m, none⟩ = some (.string (nthS x.stops m)) := hd2
              rw [hsn] at hd2
              have E1 := Lib.hid hd1
              have E2 := Lib.hid hd2
              have hns := sN_size HY.out hlk
              have hki : (k : Int) < y.stops.length := by omega
              have HW1 : Hid (∀ (h : k < y.runs.length), wdT x y s0 k ++ ⟨#[32]⟩ ++ sN x y k ++ ⟨#[32]⟩ ++ rN y k = wdT x y s0 (k + 1)) := Lib.hid (fun h => wdT_yes h)
              have HW2 : Hid (∀ (h : ¬ k < y.runs.length), wdT x y s0 k ++ ⟨#[32]⟩ ++ sN x y k = wdT x y s0 (k + 1)) := Lib.hid (fun h => wdT_no h)
              clear m0 m1 m2 hmm hsn hd1 hd2 z3
              obtain ⟨wo, rfl⟩ : ∃ wo : World, wo = wr := ⟨_, rfl⟩
              have HBo := Lib.hid (bel_call W2B.out HB4.out)
              have hC : ∀ w', Below wo.heap.size wo w' → Net2 w' w.heap.size x (some ⟨b2, o2, none⟩) ca (some ⟨b, o, none⟩) cl := fun w' h => (H4.out.call h).cells
              have hE : ∀ w', Below wo.heap.size wo w' → Lin3 w' wi.heap.size y (some ⟨b1, o1, none⟩) cs R cr := fun w' h => HL4.out.below h (by have := HB4.out.size; omega)
              have hD1 : ∀ w', Below wo.heap.size wo w' → w'.cell? ⟨b1, o1 + k, none⟩ = some (.int .i64 m) := fun w' h => ((bel_call HBo.out h).cell (p := ⟨b1, _, none⟩) hbl1).trans E1.out
              have hD2 : ∀ w', Below wo.heap.size wo w' → w'.cell? ⟨b2, o2 + m, none⟩ = some (.string (sN x y k)) := fun w' h => ((bel_call HBo.out h).cell (p := ⟨b2, _, none⟩) hbl2).trans E2.out
              unfold Net2 at hC
              unfold Lin3 at hE
              generalize hsk : wdT x y s0 k = s at *
              generalize hnk : sN x y k = nm at *
              clear hsk hnk l0 l1 l2
              have p1 : ¬ 9223372036854775807 < s.size + 1 := by omega
              have p2 : ¬ 9223372036854775807 < s.size + 1 + nm.size := by omega
              have l1 := (hE wo (Below.refl _ _)).2.1
              go_wp2_with fail
              clear l1
              go_region_held3 (fun w' => Below wo.heap.size wo w') (repeat' first | assumption | exact Nat.le_refl _ | exact Below.refl _ _ | (refine bel_drew ?_) | (refine bel_alloc ?_ _) | (refine bel_set ?_ ?_ _)) (fail)
              all_goals
                have l2 := (hE wo (Below.refl _ _)).2.2
                clear hC hE hD1 hD2
                by_cases hr : k < y.runs.length
                · have HW := Lib.hid (HW1.out hr)
                  obtain ⟨b3, o3, rfl, hbl3, hd3⟩ := (IntsIn.at HI2.out).get hr
                  have e3 := ((HBo.out).cell (p := ⟨b3, o3 + k, none⟩) hbl3).trans hd3
                  have hri : (k : Int) < y.runs.length := by omega
                  obtain ⟨r0, r1⟩ := HY.out.run k hr
                  have hrz := rN_size HY.out hr
                  have HRN : Hid (bs (num (nth y.runs k)) = rN y k) := Lib.hid rfl
                  clear hd3 hr HW1 HW2
                  go_wp2_with fail
                  refine (l1Num_any _ _ (by omega) (by omega)).mono ?_
                  rintro e w5 ⟨rfl, q, rfl⟩
                  rw [HRN.out]
                  go_wp2_with fail
                  go_roundw
                  case rel => exact ⟨k + 1, by omega, by go_num, by rw [← HW.out], by repeat (first | exact HB4.out | refine bel_drewN ?_ _ | refine bel_drew ?_)⟩
                  case measure => simp [intOf]; omega
                · have HW := Lib.hid (HW2.out hr)
                  have hri : ¬ (k : Int) < y.runs.length := by omega
                  clear hr HW1 HW2
                  go_wp2_with fail
                  go_roundw
                  case rel => exact ⟨k + 1, by omega, by go_num, by rw [← HW.out], by repeat (first | exact HB4.out | refine bel_drewN ?_ _ | refine bel_drew ?_)⟩
                  case measure => simp [intOf]; omega
            · obtain rfl : k = y.stops.length := by omega
              have HLS : Hid (wdT x y s0 y.stops.length ++ ⟨#[10]⟩ = lnT x (i + 1)) := Lib.hid (by rw [← lnT_succ, HYY.out, HS0.out])
              go_wp2_with fail
              go_roundw
              case rel => exact ⟨i + 1, by omega, by go_num, by rw [← HLS.out], by repeat (first | exact bel_call HB3.out HB4.out | refine bel_drewN ?_ _ | refine bel_drew ?_)⟩
              case measure => simp [intOf]; omega
        · obtain rfl : i = x.lines.length := by omega
          obtain ⟨c0, c1⟩ := H2.out.cells
          have JN : Hid (lnT x x.lines.length = netT x) := Lib.hid rfl
          go_wp2_with fail
          go_ret
          exact ⟨by rw [← JN.out]; rfl, H2.out.bel⟩
end Go.Proofs.YtdiffepokiabkaaDoor
