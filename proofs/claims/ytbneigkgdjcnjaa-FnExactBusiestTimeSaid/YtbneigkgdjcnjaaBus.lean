/- BusiestTime: contracts. -/
import Derived.Test.YtbneigkgdjcnjaaSpv
namespace Go.Proofs.Ytbneigkgdjcnjaa
open Go.ChangeShapes Go.WideShapes Go.ChangeAt Go.RowKit Go.PlainAid
set_option linter.unusedVariables false

/-- What BusiestTime returns. -/
def btT (xs : List I2) : Int := if spansB xs = true then (bestU xs 1799 : Nat) else 0
def btM (xs : List I2) : Int := if spansB xs = true then (cAt xs (bestU xs 1799 : Nat) : Nat) else 0
theorem bt_no {xs : List I2} (h : spansB xs = false) : btT xs = 0 ∧ btM xs = 0 := by unfold btT btM; rw [h]; exact ⟨rfl, rfl⟩
theorem bt_yes {xs : List I2} (h : spansB xs = true) : btT xs = (bestU xs 1799 : Nat) ∧ btM xs = (cAt xs (bestU xs 1799 : Nat) : Nat) := by unfold btT btM; rw [h]; exact ⟨rfl, rfl⟩
theorem retT3 {a a' b b' : Int} {c c' : Bool} (h1 : a = a') (h2 : b = b') (h3 : c = c') : Ending.returned (.tuple #[.int .i64 a, .int .i64 b, .bool c]) = .returned (.tuple #[.int .i64 a', .int .i64 b', .bool c']) := by rw [h1, h2, h3]

set_option maxRecDepth 100000 in
set_option maxHeartbeats 2000000 in
theorem specBusiest_any (A : Option Addr) (c : Nat) (xs : List I2) (w : World) (h : I2sIn w (Zone.below w.heap.size) A xs) (hn : xs.length ≤ 1048576) :
    Calls Try.prog 50 #[.slice A xs.length c] w fun e w' => e = .returned (.tuple #[.int .i64 (btT xs), .int .i64 (btM xs), .bool (spansB xs)]) ∧ Below w.heap.size w w' := by
  have HX := Lib.hid h
  clear h
  cases g : spansB xs
  · have H := Lib.hid (bt_no g)
    go_enter Try.func50, Try.ntmps50
    go_wp2_with fail
    refine (l4Spans_any _ _ xs _ HX.out hn).mono ?_
    rintro e w1 ⟨rfl, hb1⟩
    have HB1 := Lib.hid hb1
    clear hb1
    go_wp2_with fail
    go_ret3
    exact ⟨retT3 H.out.1.symm H.out.2.symm rfl, HB1.out⟩
  · have H := Lib.hid (bt_yes g)
    have HV := Lib.hid (spansB_ok g)
    go_enter Try.func50, Try.ntmps50
    go_wp2_with fail
    refine (l4Spans_any _ _ xs _ HX.out hn).mono ?_
    rintro e w1 ⟨rfl, hb1⟩
    have HB1 := Lib.hid hb1
    have HX1 := Lib.hid (HX.out.call hb1)
    clear hb1
    go_wp2_with fail
    refine (l4Counts_any _ _ xs _ HX1.out HV.out).mono ?_
    rintro e w2 ⟨rfl, ha, hb2⟩
    have HA := Lib.hid ha
    have HB2 := Lib.hid (bel_call HB1.out hb2)
    have hg := ha.lt
    clear ha hb2
    go_wp2_with fail
    go_loopw [6, 7] (fun b i wr => ∃ k : Nat, 1 ≤ k ∧ k ≤ 1800 ∧ i = .int .i64 k ∧ b = .int .i64 (bestU xs (k - 1) : Nat) ∧ Dr w2 wr) (fun _ i _ => 1800 - (intOf i).toNat)
    case atStart => exact ⟨1, by omega, by omega, rfl, rfl, Dr.refl _⟩
    case round =>
      obtain ⟨k, hk0, hk, rfl, rfl, q, rfl⟩ := hrel
      have hb1 := (bestU_spec xs (k - 1)).1
      have hm1 := cAt_le xs (bestU xs (k - 1) : Nat)
      by_cases hlt : k < 1800
      · have hc1 : w2.cell? ⟨w1.heap.size, k, none⟩ = some (.int .i64 (cAt xs k : Nat)) := HA.out.cells k hlt
        have hc2 : w2.cell? ⟨w1.heap.size, bestU xs (k - 1), none⟩ = some (.int .i64 (cAt xs (bestU xs (k - 1) : Nat) : Nat)) := HA.out.cells _ (by omega)
        have hi1 : (k : Int) < 1800 := by omega
        have hi2 : (bestU xs (k - 1) : Int) < 1800 := by omega
        have hm2 := cAt_le xs (k : Int)
        by_cases hgt : cAt xs (bestU xs (k - 1) : Nat) < cAt xs (k : Int)
        · have HS : Hid (bestU xs (k + 1 - 1) = k) := Lib.hid (by
            obtain ⟨j, rfl⟩ : ∃ j, k = j + 1 := ⟨k - 1, by omega⟩
            exact bestU_yes hgt)
          generalize bestU xs (k - 1) = u at *
          go_wp2_with fail
          go_quiet (fail)
          go_wp2_with fail
          go_roundw
          case rel => exact ⟨k + 1, by omega, by omega, by go_num, by rw [HS.out], _, rfl⟩
          case measure => simp [intOf]; omega
        · have HS : Hid (bestU xs (k + 1 - 1) = bestU xs (k - 1)) := Lib.hid (by
            obtain ⟨j, rfl⟩ : ∃ j, k = j + 1 := ⟨k - 1, by omega⟩
            exact bestU_no hgt)
          generalize bestU xs (k - 1) = u at *
          go_wp2_with fail
          go_quiet (fail)
          go_wp2_with fail
          go_roundw
          case rel => exact ⟨k + 1, by omega, by omega, by go_num, by rw [HS.out], _, rfl⟩
          case measure => simp [intOf]; omega
      · obtain rfl : k = 1800 := by omega
        have hb9 : bestU xs 1799 ≤ 1799 := (bestU_spec xs 1799).1
        have hc2 : w2.cell? ⟨w1.heap.size, bestU xs 1799, none⟩ = some (.int .i64 (cAt xs (bestU xs 1799 : Nat) : Nat)) := HA.out.cells _ (by omega)
        have hi2 : (bestU xs 1799 : Int) < 1800 := by omega
        have HH : Hid (btT xs = (bestU xs 1799 : Nat) ∧ btM xs = (cAt xs (bestU xs 1799 : Nat) : Nat)) := H
        go_wp2_with fail
        go_quiet (fail)
        go_wp2_with fail
        go_ret3
        exact ⟨retT3 HH.out.1.symm HH.out.2.symm rfl, bel_drewN (bel_drewN HB2.out _) _⟩

set_option maxRecDepth 100000 in
set_option maxHeartbeats 4000000 in
theorem implBusiest_any (A : Option Addr) (c : Nat) (xs : List I2) (w : World) (h : I2sIn w (Zone.below w.heap.size) A xs) (hn : xs.length ≤ 1048576) :
    Calls Try.prog 52 #[.slice A xs.length c] w fun e w' => e = .returned (.tuple #[.int .i64 (btT xs), .int .i64 (btM xs), .bool (spansB xs)]) ∧ Below w.heap.size w w' := by
  have HX := Lib.hid h
  clear h
  cases g : spansB xs
  · have H := Lib.hid (bt_no g)
    go_enter Try.func52, Try.ntmps52
    go_wp2_with fail
    refine (areSpans_any _ _ xs _ HX.out hn).mono ?_
    rintro e w1 ⟨rfl, hb1⟩
    have HB1 := Lib.hid hb1
    clear hb1
    go_wp2_with fail
    go_ret3
    exact ⟨retT3 H.out.1.symm H.out.2.symm rfl, HB1.out⟩
  · have H := Lib.hid (bt_yes g)
    have HV := Lib.hid (spansB_ok g)
    go_enter Try.func52, Try.ntmps52
    go_wp2_with fail
    refine (areSpans_any _ _ xs _ HX.out hn).mono ?_
    rintro e w1 ⟨rfl, hb1⟩
    have HB1 := Lib.hid hb1
    have HX1 := Lib.hid (HX.out.call hb1)
    clear hb1
    go_wp2_with fail
    go_loopw [5, 6, 8, 17] (fun bt m _ i wr => ∃ k : Nat, k ≤ xs.length ∧ i = .int .i64 k ∧ bt = .int .i64 (impU xs k).1 ∧ m = .int .i64 ((impU xs k).2 : Nat) ∧ Below w1.heap.size w1 wr) (fun _ _ _ i _ => xs.length - (intOf i).toNat)
    case atStart => exact ⟨0, Nat.zero_le _, rfl, rfl, rfl, Below.refl _ _⟩
    case round =>
      obtain ⟨k, hk, rfl, rfl, rfl, hb⟩ := hrel
      have HB := Lib.hid hb
      have hz := hb.size
      by_cases hlt : k < xs.length
      · obtain ⟨b, o, rfl, hbl, hc0, hc1⟩ := I2sIn.at (HX1.out.call hb) hlt
        have hik : (k : Int) < (xs.length : Int) := by omega
        have hb0 : Below wr.heap.size wr (wr.alloc (.cells #[.int .i64 (nth2 xs k).a, .int .i64 (nth2 xs k).b] 116)) := by go_grown
        have HBw := Lib.hid (HB.out.trans (hb0.mono hz))
        have hgw : wr.heap.size < (wr.alloc (.cells #[.int .i64 (nth2 xs k).a, .int .i64 (nth2 xs k).b] 116)).heap.size := by simp
        have k0 : (wr.alloc (.cells #[.int .i64 (nth2 xs k).a, .int .i64 (nth2 xs k).b] 116)).cell? ⟨wr.heap.size, 0, none⟩ = some (.int .i64 (nth2 xs k).a) := by go_simp
        have HK := Lib.hid k0
        have HX2 := Lib.hid (HX1.out.call HBw.out)
        have hsp := spB_iff.1 ((HV.out).2 k hlt)
        have v1 := hsp.1
        have v2 : (nth2 xs k).a ≤ 1799 := by omega
        obtain ⟨wb, hwb⟩ : ∃ wb, wb = (wr.alloc (.cells #[.int .i64 (nth2 xs k).a, .int .i64 (nth2 xs k).b] 116)) := ⟨_, rfl⟩
        rw [← hwb] at HBw hgw HK HX2
        have HWB := Lib.hid hwb
        clear hb hb0 k0 hwb hsp
        go_wp2_with fail
        rw [← HWB.out]
        obtain ⟨wo, rfl⟩ : ∃ wo : World, wo = wr := ⟨_, rfl⟩
        go_loopw [9, 11, 23] (fun n _ i wi => ∃ j : Nat, j ≤ xs.length ∧ i = .int .i64 j ∧ n = .int .i64 (cnt2 xs (nth2 xs k).a j : Nat) ∧ Below wb.heap.size wb wi) (fun _ _ i _ => xs.length - (intOf i).toNat)
        case atStart => exact ⟨0, Nat.zero_le _, rfl, rfl, Below.refl _ _⟩
        case round =>
          obtain ⟨j, hj, rfl, rfl, hbi⟩ := hrel
          have HBi := Lib.hid hbi
          have k0 : wr.cell? ⟨wo.heap.size, 0, none⟩ = some (.int .i64 (nth2 xs k).a) := (hbi.cell (p := ⟨wo.heap.size, 0, none⟩) hgw).trans HK.out
          have hzi := hbi.size
          have hgo : wo.heap.size < wr.heap.size := by omega
          have hcl := cnt2_le xs (nth2 xs k).a j
          by_cases hjl : j < xs.length
          · obtain ⟨b2, o2, e2, hbl2, hd0, hd1⟩ := I2sIn.at (HX2.out.call hbi) hjl
            injection e2 with e2
            injection e2 with e3 e4
            subst e3 e4
            have hij : (j : Int) < (xs.length : Int) := by omega
            clear hbi
            by_cases t1 : (nth2 xs j).a ≤ (nth2 xs k).a
            · by_cases t2 : (nth2 xs k).a < (nth2 xs j).b
              · have HS := Lib.hid (cnt2_yes (xs := xs) (t := (nth2 xs k).a) (k := j) ⟨t1, t2⟩)
                go_wp2_with fail
                go_roundw
                case rel => exact ⟨j + 1, by omega, by go_num, by rw [HS.out]; go_num, HBi.out.alloc hzi _⟩
                case measure => simp [intOf]; omega
              · have HS := Lib.hid (cnt2_no (xs := xs) (t := (nth2 xs k).a) (k := j) (fun h => t2 h.2))
                go_wp2_with fail
                go_roundw
                case rel => exact ⟨j + 1, by omega, by go_num, by rw [HS.out], HBi.out.alloc hzi _⟩
                case measure => simp [intOf]; omega
            · have HS := Lib.hid (cnt2_no (xs := xs) (t := (nth2 xs k).a) (k := j) (fun h => t1 h.1))
              go_wp2_with fail
              go_roundw
              case rel => exact ⟨j + 1, by omega, by go_num, by rw [HS.out], HBi.out.alloc hzi _⟩
              case measure => simp [intOf]; omega
          · obtain rfl : j = xs.length := by omega
            have HBr := Lib.hid (HBw.out.trans (hbi.mono HBw.out.size))
            clear hbi
            have HT : Hid (∀ (b : Int) (m : Nat), takeB xs k b m ↔ (m < cnt2 xs (nth2 xs k).a xs.length ∨ (cnt2 xs (nth2 xs k).a xs.length = m ∧ 0 < cnt2 xs (nth2 xs k).a xs.length ∧ (nth2 xs k).a < b))) := Lib.hid (fun b m => Iff.rfl)
            have HI := Lib.hid (And.intro (@impU_yes xs k) (@impU_no xs k))
            have HCA : Hid (cAt xs (nth2 xs k).a = cnt2 xs (nth2 xs k).a xs.length) := Lib.hid rfl
            obtain ⟨B, hB⟩ : ∃ B, B = (impU xs k).1 := ⟨_, rfl⟩
            obtain ⟨M, hM⟩ : ∃ M, M = (impU xs k).2 := ⟨_, rfl⟩
            have HTT := Lib.hid ((HT.out B M))
            rw [← hB, ← hM] at HI ⊢
            have HBM := Lib.hid (And.intro hB hM)
            clear hB hM
            generalize cnt2 xs (nth2 xs k).a xs.length = N at *
            have rel1 : takeB xs k B M → Hid (impU xs (k + 1) = ((nth2 xs k).a, N)) := fun h => Lib.hid (by rw [HI.out.1 h, HCA.out])
            have rel2 : ¬ takeB xs k B M → Hid (impU xs (k + 1) = impU xs k) := fun h => Lib.hid (HI.out.2 h)
            by_cases t1 : M < N
            · have HS := rel1 (HTT.out.2 (.inl t1))
              clear rel1 rel2
              go_wp2_with fail
              go_roundw
              case rel => exact ⟨k + 1, by omega, by go_num, by rw [HS.out], by rw [HS.out], HBr.out⟩
              case measure => simp [intOf]; omega
            · by_cases t2 : N = M
              · by_cases t3 : 0 < N
                · by_cases t4 : (nth2 xs k).a < B
                  · have HS := rel1 (HTT.out.2 (.inr ⟨t2, t3, t4⟩))
                    have q2 : (N == M) = true := by simpa using t2
                    have q3 : ((N : Int) == (M : Int)) = true := by simp [t2]
                    have T2 := Lib.hid t2
                    clear rel1 rel2 t2
                    go_wp2_with fail
                    go_roundw
                    case rel => exact ⟨k + 1, by omega, by go_num, by rw [HS.out], by rw [HS.out], HBr.out⟩
                    case measure => simp [intOf]; omega
                  · have HS := rel2 (fun h => by have := HTT.out.1 h; omega)
                    have q2 : (N == M) = true := by simpa using t2
                    have q3 : ((N : Int) == (M : Int)) = true := by simp [t2]
                    have T2 := Lib.hid t2
                    clear rel1 rel2 t2
                    go_wp2_with fail
                    go_roundw
                    case rel => exact ⟨k + 1, by omega, by go_num, by rw [HS.out, ← HBM.out.1], by rw [HS.out, ← HBM.out.2], HBr.out⟩
                    case measure => simp [intOf]; omega
                · have HS := rel2 (fun h => by have := HTT.out.1 h; omega)
                  have q2 : (N == M) = true := by simpa using t2
                  have q3 : ((N : Int) == (M : Int)) = true := by simp [t2]
                  have q4 : decide (0 < N) = false := by simpa using t3
                  have T2 := Lib.hid t2
                  have T3 := Lib.hid t3
                  clear rel1 rel2 t2 t3
                  go_wp2_with fail
                  go_roundw
                  case rel => exact ⟨k + 1, by omega, by go_num, by rw [HS.out, ← HBM.out.1], by rw [HS.out, ← HBM.out.2], HBr.out⟩
                  case measure => simp [intOf]; omega
              · have HS := rel2 (fun h => by have := HTT.out.1 h; omega)
                have q2 : (N == M) = false := by simpa using t2
                have q3 : ((N : Int) == (M : Int)) = false := by simp; omega
                clear rel1 rel2
                go_wp2_with fail
                go_roundw
                case rel => exact ⟨k + 1, by omega, by go_num, by rw [HS.out, ← HBM.out.1], by rw [HS.out, ← HBM.out.2], HBr.out⟩
                case measure => simp [intOf]; omega
      · obtain rfl : k = xs.length := by omega
        have HE := Lib.hid (busy_eq xs (fun k hk => by have := spB_iff.1 ((HV.out).2 k hk); omega))
        clear hb
        go_wp2_with fail
        go_ret3
        exact ⟨retT3 (by rw [H.out.1, HE.out.1]) (by rw [H.out.2, HE.out.2]) rfl, HB1.out.trans (HB.out.mono HB1.out.size)⟩

end Go.Proofs.Ytbneigkgdjcnjaa
